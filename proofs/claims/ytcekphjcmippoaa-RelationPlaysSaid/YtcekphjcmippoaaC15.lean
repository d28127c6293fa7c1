/- BothC -/
import Derived.Test.YtcekphjcmippoaaC14
/- Both relations side by side: how they lie; sizes, whole. -/
namespace Go.Proofs.Ytcekphjcmippoaa
open Go.RowKit Go.WideMaps
set_option linter.unusedSimpArgs false
set_option linter.unusedVariables false

/-- A 'both' at off in block bb: the state is S; what it owns is within O. -/
structure BothAt (B : Nat) (w : World) (bb off : Nat) (S : Option RSt) (O : Nat → Prop) (p q : Option Addr) (kv : Value) (f t : Int) (FT FD : Nat → Prop) : Prop where
  blk : ∃ arr ty, w.heap[bb]? = some (.cells arr ty (0, 0)) ∧ arr[off]? = some (.pointer p) ∧ arr[off + 1]? = some (.pointer q) ∧ arr[off + 2]? = some kv ∧ arr[off + 3]? = some (.int .i64 f) ∧ arr[off + 4]? = some (.int .i64 t)
  T : TAt B w p S FT
  D : DAt B w q S FD
  fO : ∀ k, FT k → O k
  dO : ∀ k, FD k → O k
  dis : ∀ k, FT k → ¬ FD k
  nb : ¬ O bb
  lt : ∀ k, O k → k < w.heap.size
  base : B ≤ w.heap.size
  kept : kv = .nilFunc ∨ ∃ lb, kv = .func (.func 35) #[] lb ∧ ∃ b1 b2 b3, lb = #[.pointer (some ⟨b1, 0, none⟩), .pointer (some ⟨b2, 0, none⟩), .pointer (some ⟨b3, 0, none⟩)] ∧
    w.cell? ⟨b1, 0, none⟩ = some (.pointer p) ∧ w.cell? ⟨b2, 0, none⟩ = some (.int .i64 f) ∧ w.cell? ⟨b3, 0, none⟩ = some (.int .i64 t) ∧ ∀ j, j = b1 ∨ j = b2 ∨ j = b3 → O j ∧ ¬ FT j ∧ ¬ FD j
section
variable {B : Nat} {w w' : World} {bb off : Nat} {S : Option RSt} {O G FT FD : Nat → Prop} {p q : Option Addr} {kv : Value} {f t : Int}
theorem BothAt.cell (h : BothAt B w bb off S O p q kv f t FT FD) : w.cell? ⟨bb, off, none⟩ = some (.pointer p) ∧ w.cell? ⟨bb, off + 1, none⟩ = some (.pointer q) ∧ w.cell? ⟨bb, off + 2, none⟩ = some kv ∧ w.cell? ⟨bb, off + 3, none⟩ = some (.int .i64 f) ∧ w.cell? ⟨bb, off + 4, none⟩ = some (.int .i64 t) := by
  obtain ⟨arr, ty, h0, h1, h2, h3, h4, h5⟩ := h.blk
  refine ⟨?_, ?_, ?_, ?_, ?_⟩ <;> simp [World.cell?, h0, h1, h2, h3, h4, h5]
theorem BothAt.only (h : BothAt B w bb off S O p q kv f t FT FD) (hf : Only G w w') (hd : ∀ k, O k → ¬ G k) (hb : ¬ G bb) : BothAt B w' bb off S O p q kv f t FT FD := by
  obtain ⟨arr, ty, h0, hr⟩ := h.blk
  refine ⟨⟨arr, ty, hf.keeps h0 hb, hr⟩, h.T.only hf fun k hk => hd k (h.fO k hk), h.D.only hf fun k hk => hd k (h.dO k hk), h.fO, h.dO, h.dis, h.nb, fun k hk => Nat.lt_of_lt_of_le (h.lt k hk) hf.size, Nat.le_trans h.base hf.size, ?_⟩
  rcases h.kept with h1 | ⟨lb, h1, b1, b2, b3, h2, h3, h4, h5, h6⟩
  · exact .inl h1
  · exact .inr ⟨lb, h1, b1, b2, b3, h2, hf.cell h3 (hd _ (h6 b1 (.inl rfl)).1), hf.cell h4 (hd _ (h6 b2 (.inr (.inl rfl))).1), hf.cell h5 (hd _ (h6 b3 (.inr (.inr rfl))).1), h6⟩
theorem BothAt.fut (h : BothAt B w bb off S O p q kv f t FT FD) (hf : Fut w w') : BothAt B w' bb off S O p q kv f t FT FD :=
  h.only (G := fun _ => False) (Only.fut hf) (fun _ _ h => h) (fun h => h)
end
set_option maxHeartbeats 1600000 in
set_option maxRecDepth 100000 in
theorem sizes_any {B : Nat} {w : World} {bb off : Nat} {S : Option RSt} {O FT FD : Nat → Prop} {p q : Option Addr} {kv : Value} {f t : Int} (h : BothAt B w bb off S O p q kv f t FT FD) :
    Calls Try.prog 51 #[.pointer (some ⟨bb, off, none⟩)] w fun e w' => e = .returned (.bool true) ∧ Fut w w' := by
  have H := Lib.hid h
  obtain ⟨c0, c1, _⟩ := h.cell
  clear h
  go_enter Try.func51, Try.ntmps51
  go_wp2_with fail
  refine wp_graph 38 [.d, .d, .d, .d, .d, .d, .d, .d, .d, .d, .d, .d, .d, .d, .d, .d, .d, .d, .d, .d, .d, .d, .d, .d, .d, .d, .d, .d, .d, .d, .d, .d, .d, .d, .d, .d, .d, .d] (by kernel_rfl) (by kernel_rfl) (by kernel_rfl) ?_
  simp only [List.take_succ_cons, List.take_zero, List.drop_succ_cons, List.drop_zero, Exs]
  iterate 38 apply Exists.intro
  apply Run.valG (wanted_none rfl _)
  · intro w1 h1 hk
    have hg := (Fut.drew _).trans h1; have q0 := h1.cell c0; have q1 := h1.cell c1
    have hcw := fun b o => Below.cell (p := ⟨b, o, none⟩) h1
    go_simp; rfl
  simp only [Act.put, List.setIfInBounds_toArray, List.set_cons_succ, List.set_cons_zero, List.nil_append, List.cons_append]
  apply Run.valG (wanted_none rfl _)
  · intro w1 h1 hk
    have hg := (Fut.drew _).trans h1; have q0 := h1.cell c0; have q1 := h1.cell c1
    have hcw := fun b o => Below.cell (p := ⟨b, o, none⟩) h1
    go_simp; rfl
  simp only [Act.put, List.setIfInBounds_toArray, List.set_cons_succ, List.set_cons_zero, List.nil_append, List.cons_append]
  apply Run.valG (wanted_none rfl _)
  · intro w1 h1 hk
    have hg := (Fut.drew _).trans h1; have q0 := h1.cell c0; have q1 := h1.cell c1
    have hcw := fun b o => Below.cell (p := ⟨b, o, none⟩) h1
    go_simp; rfl
  simp only [Act.put, List.setIfInBounds_toArray, List.set_cons_succ, List.set_cons_zero, List.nil_append, List.cons_append]
  apply Run.valG (wanted_none rfl _)
  · intro w1 h1 hk
    have hg := (Fut.drew _).trans h1; have q0 := h1.cell c0; have q1 := h1.cell c1
    have hcw := fun b o => Below.cell (p := ⟨b, o, none⟩) h1
    go_simp; rfl
  simp only [Act.put, List.setIfInBounds_toArray, List.set_cons_succ, List.set_cons_zero, List.nil_append, List.cons_append]
  apply Run.call (wanted_none rfl _) (fun _ _ => by go_simp; exact ⟨rfl, rfl⟩)
  · intro w1 h1 hk
    have hg := (Fut.drew _).trans h1; have q0 := h1.cell c0; have q1 := h1.cell c1
    refine (T_arity (H.out.fut hg).T).mono ?_; rintro e w' ⟨rfl, rfl⟩; exact ⟨rfl, Fut.refl _⟩
  simp only [Act.put, List.setIfInBounds_toArray, List.set_cons_succ, List.set_cons_zero, List.nil_append, List.cons_append]
  apply Run.valG (wanted_none rfl _)
  · intro w1 h1 hk
    have hg := (Fut.drew _).trans h1; have q0 := h1.cell c0; have q1 := h1.cell c1
    have hcw := fun b o => Below.cell (p := ⟨b, o, none⟩) h1
    go_simp; rfl
  simp only [Act.put, List.setIfInBounds_toArray, List.set_cons_succ, List.set_cons_zero, List.nil_append, List.cons_append]
  apply Run.valG (wanted_none rfl _)
  · intro w1 h1 hk
    have hg := (Fut.drew _).trans h1; have q0 := h1.cell c0; have q1 := h1.cell c1
    have hcw := fun b o => Below.cell (p := ⟨b, o, none⟩) h1
    go_simp; rfl
  simp only [Act.put, List.setIfInBounds_toArray, List.set_cons_succ, List.set_cons_zero, List.nil_append, List.cons_append]
  apply Run.valG (wanted_none rfl _)
  · intro w1 h1 hk
    have hg := (Fut.drew _).trans h1; have q0 := h1.cell c0; have q1 := h1.cell c1
    have hcw := fun b o => Below.cell (p := ⟨b, o, none⟩) h1
    go_simp; rfl
  simp only [Act.put, List.setIfInBounds_toArray, List.set_cons_succ, List.set_cons_zero, List.nil_append, List.cons_append]
  apply Run.valG (wanted_none rfl _)
  · intro w1 h1 hk
    have hg := (Fut.drew _).trans h1; have q0 := h1.cell c0; have q1 := h1.cell c1
    have hcw := fun b o => Below.cell (p := ⟨b, o, none⟩) h1
    go_simp; rfl
  simp only [Act.put, List.setIfInBounds_toArray, List.set_cons_succ, List.set_cons_zero, List.nil_append, List.cons_append]
  apply Run.call (wanted_none rfl _) (fun _ _ => by go_simp; exact ⟨rfl, rfl⟩)
  · intro w1 h1 hk
    have hg := (Fut.drew _).trans h1; have q0 := h1.cell c0; have q1 := h1.cell c1
    refine (D_arity (H.out.fut hg).D).mono ?_; rintro e w' ⟨rfl, rfl⟩; exact ⟨rfl, Fut.refl _⟩
  simp only [Act.put, List.setIfInBounds_toArray, List.set_cons_succ, List.set_cons_zero, List.nil_append, List.cons_append]
  apply Run.valG (wanted_none rfl _)
  · intro w1 h1 hk
    have hg := (Fut.drew _).trans h1; have q0 := h1.cell c0; have q1 := h1.cell c1
    have hcw := fun b o => Below.cell (p := ⟨b, o, none⟩) h1
    go_simp; rfl
  simp only [Act.put, List.setIfInBounds_toArray, List.set_cons_succ, List.set_cons_zero, List.nil_append, List.cons_append]
  apply Run.valG (wanted_none rfl _)
  · intro w1 h1 hk
    have hg := (Fut.drew _).trans h1; have q0 := h1.cell c0; have q1 := h1.cell c1
    have hcw := fun b o => Below.cell (p := ⟨b, o, none⟩) h1
    go_simp; rfl
  simp only [Act.put, List.setIfInBounds_toArray, List.set_cons_succ, List.set_cons_zero, List.nil_append, List.cons_append]
  apply Run.valG (by go_simp)
  · intro w1 h1 hk
    have hg := (Fut.drew _).trans h1; have q0 := h1.cell c0; have q1 := h1.cell c1
    have hcw := fun b o => Below.cell (p := ⟨b, o, none⟩) h1
    go_simp; rfl
  simp only [Act.put, List.setIfInBounds_toArray, List.set_cons_succ, List.set_cons_zero, List.nil_append, List.cons_append]
  apply Run.valG (by go_simp)
  · intro w1 h1 hk
    have hg := (Fut.drew _).trans h1; have q0 := h1.cell c0; have q1 := h1.cell c1
    have hcw := fun b o => Below.cell (p := ⟨b, o, none⟩) h1
    go_simp; rfl
  simp only [Act.put, List.setIfInBounds_toArray, List.set_cons_succ, List.set_cons_zero, List.nil_append, List.cons_append]
  apply Run.valG (by go_simp)
  · intro w1 h1 hk
    have hg := (Fut.drew _).trans h1; have q0 := h1.cell c0; have q1 := h1.cell c1
    have hcw := fun b o => Below.cell (p := ⟨b, o, none⟩) h1
    go_simp; rfl
  simp only [Act.put, List.setIfInBounds_toArray, List.set_cons_succ, List.set_cons_zero, List.nil_append, List.cons_append]
  apply Run.valG (by go_simp)
  · intro w1 h1 hk
    have hg := (Fut.drew _).trans h1; have q0 := h1.cell c0; have q1 := h1.cell c1
    have hcw := fun b o => Below.cell (p := ⟨b, o, none⟩) h1
    go_simp; rfl
  simp only [Act.put, List.setIfInBounds_toArray, List.set_cons_succ, List.set_cons_zero, List.nil_append, List.cons_append]
  apply Run.call (by go_simp) (fun _ _ => by go_simp; exact ⟨rfl, rfl⟩)
  · intro w1 h1 hk
    have hg := (Fut.drew _).trans h1; have q0 := h1.cell c0; have q1 := h1.cell c1
    refine (T_len (H.out.fut hg).T).mono ?_; rintro e w' ⟨rfl, rfl⟩; exact ⟨rfl, Fut.refl _⟩
  simp only [Act.put, List.setIfInBounds_toArray, List.set_cons_succ, List.set_cons_zero, List.nil_append, List.cons_append]
  apply Run.valG (by go_simp)
  · intro w1 h1 hk
    have hg := (Fut.drew _).trans h1; have q0 := h1.cell c0; have q1 := h1.cell c1
    have hcw := fun b o => Below.cell (p := ⟨b, o, none⟩) h1
    go_simp; rfl
  simp only [Act.put, List.setIfInBounds_toArray, List.set_cons_succ, List.set_cons_zero, List.nil_append, List.cons_append]
  apply Run.valG (by go_simp)
  · intro w1 h1 hk
    have hg := (Fut.drew _).trans h1; have q0 := h1.cell c0; have q1 := h1.cell c1
    have hcw := fun b o => Below.cell (p := ⟨b, o, none⟩) h1
    go_simp; rfl
  simp only [Act.put, List.setIfInBounds_toArray, List.set_cons_succ, List.set_cons_zero, List.nil_append, List.cons_append]
  apply Run.valG (by go_simp)
  · intro w1 h1 hk
    have hg := (Fut.drew _).trans h1; have q0 := h1.cell c0; have q1 := h1.cell c1
    have hcw := fun b o => Below.cell (p := ⟨b, o, none⟩) h1
    go_simp; rfl
  simp only [Act.put, List.setIfInBounds_toArray, List.set_cons_succ, List.set_cons_zero, List.nil_append, List.cons_append]
  apply Run.valG (by go_simp)
  · intro w1 h1 hk
    have hg := (Fut.drew _).trans h1; have q0 := h1.cell c0; have q1 := h1.cell c1
    have hcw := fun b o => Below.cell (p := ⟨b, o, none⟩) h1
    go_simp; rfl
  simp only [Act.put, List.setIfInBounds_toArray, List.set_cons_succ, List.set_cons_zero, List.nil_append, List.cons_append]
  apply Run.call (by go_simp) (fun _ _ => by go_simp; exact ⟨rfl, rfl⟩)
  · intro w1 h1 hk
    have hg := (Fut.drew _).trans h1; have q0 := h1.cell c0; have q1 := h1.cell c1
    refine (D_len (H.out.fut hg).D).mono ?_; rintro e w' ⟨rfl, rfl⟩; exact ⟨rfl, Fut.refl _⟩
  simp only [Act.put, List.setIfInBounds_toArray, List.set_cons_succ, List.set_cons_zero, List.nil_append, List.cons_append]
  apply Run.valG (by go_simp)
  · intro w1 h1 hk
    have hg := (Fut.drew _).trans h1; have q0 := h1.cell c0; have q1 := h1.cell c1
    have hcw := fun b o => Below.cell (p := ⟨b, o, none⟩) h1
    go_simp; rfl
  simp only [Act.put, List.setIfInBounds_toArray, List.set_cons_succ, List.set_cons_zero, List.nil_append, List.cons_append]
  apply Run.valG (wanted_none rfl _)
  · intro w1 h1 hk
    have hg := (Fut.drew _).trans h1; have q0 := h1.cell c0; have q1 := h1.cell c1
    have hcw := fun b o => Below.cell (p := ⟨b, o, none⟩) h1
    go_simp; rfl
  simp only [Act.put, List.setIfInBounds_toArray, List.set_cons_succ, List.set_cons_zero, List.nil_append, List.cons_append]
  apply Run.valG (wanted_none rfl _)
  · intro w1 h1 hk
    have hg := (Fut.drew _).trans h1; have q0 := h1.cell c0; have q1 := h1.cell c1
    have hcw := fun b o => Below.cell (p := ⟨b, o, none⟩) h1
    go_simp; rfl
  simp only [Act.put, List.setIfInBounds_toArray, List.set_cons_succ, List.set_cons_zero, List.nil_append, List.cons_append]
  apply Run.valG (by go_simp)
  · intro w1 h1 hk
    have hg := (Fut.drew _).trans h1; have q0 := h1.cell c0; have q1 := h1.cell c1
    have hcw := fun b o => Below.cell (p := ⟨b, o, none⟩) h1
    go_simp; rfl
  simp only [Act.put, List.setIfInBounds_toArray, List.set_cons_succ, List.set_cons_zero, List.nil_append, List.cons_append]
  apply Run.valG (by go_simp)
  · intro w1 h1 hk
    have hg := (Fut.drew _).trans h1; have q0 := h1.cell c0; have q1 := h1.cell c1
    have hcw := fun b o => Below.cell (p := ⟨b, o, none⟩) h1
    go_simp; rfl
  simp only [Act.put, List.setIfInBounds_toArray, List.set_cons_succ, List.set_cons_zero, List.nil_append, List.cons_append]
  apply Run.valG (by go_simp)
  · intro w1 h1 hk
    have hg := (Fut.drew _).trans h1; have q0 := h1.cell c0; have q1 := h1.cell c1
    have hcw := fun b o => Below.cell (p := ⟨b, o, none⟩) h1
    go_simp; rfl
  simp only [Act.put, List.setIfInBounds_toArray, List.set_cons_succ, List.set_cons_zero, List.nil_append, List.cons_append]
  apply Run.valG (by go_simp)
  · intro w1 h1 hk
    have hg := (Fut.drew _).trans h1; have q0 := h1.cell c0; have q1 := h1.cell c1
    have hcw := fun b o => Below.cell (p := ⟨b, o, none⟩) h1
    go_simp; rfl
  simp only [Act.put, List.setIfInBounds_toArray, List.set_cons_succ, List.set_cons_zero, List.nil_append, List.cons_append]
  apply Run.call (by go_simp) (fun _ _ => by go_simp; exact ⟨rfl, rfl⟩)
  · intro w1 h1 hk
    have hg := (Fut.drew _).trans h1; have q0 := h1.cell c0; have q1 := h1.cell c1
    refine (T_gone (H.out.fut hg).T).mono ?_; rintro e w' ⟨rfl, rfl⟩; exact ⟨rfl, Fut.refl _⟩
  simp only [Act.put, List.setIfInBounds_toArray, List.set_cons_succ, List.set_cons_zero, List.nil_append, List.cons_append]
  apply Run.valG (by go_simp)
  · intro w1 h1 hk
    have hg := (Fut.drew _).trans h1; have q0 := h1.cell c0; have q1 := h1.cell c1
    have hcw := fun b o => Below.cell (p := ⟨b, o, none⟩) h1
    go_simp; rfl
  simp only [Act.put, List.setIfInBounds_toArray, List.set_cons_succ, List.set_cons_zero, List.nil_append, List.cons_append]
  apply Run.valG (by go_simp)
  · intro w1 h1 hk
    have hg := (Fut.drew _).trans h1; have q0 := h1.cell c0; have q1 := h1.cell c1
    have hcw := fun b o => Below.cell (p := ⟨b, o, none⟩) h1
    go_simp; rfl
  simp only [Act.put, List.setIfInBounds_toArray, List.set_cons_succ, List.set_cons_zero, List.nil_append, List.cons_append]
  apply Run.valG (by go_simp)
  · intro w1 h1 hk
    have hg := (Fut.drew _).trans h1; have q0 := h1.cell c0; have q1 := h1.cell c1
    have hcw := fun b o => Below.cell (p := ⟨b, o, none⟩) h1
    go_simp; rfl
  simp only [Act.put, List.setIfInBounds_toArray, List.set_cons_succ, List.set_cons_zero, List.nil_append, List.cons_append]
  apply Run.valG (by go_simp)
  · intro w1 h1 hk
    have hg := (Fut.drew _).trans h1; have q0 := h1.cell c0; have q1 := h1.cell c1
    have hcw := fun b o => Below.cell (p := ⟨b, o, none⟩) h1
    go_simp; rfl
  simp only [Act.put, List.setIfInBounds_toArray, List.set_cons_succ, List.set_cons_zero, List.nil_append, List.cons_append]
  apply Run.call (by go_simp) (fun _ _ => by go_simp; exact ⟨rfl, rfl⟩)
  · intro w1 h1 hk
    have hg := (Fut.drew _).trans h1; have q0 := h1.cell c0; have q1 := h1.cell c1
    refine (D_gone (H.out.fut hg).D).mono ?_; rintro e w' ⟨rfl, rfl⟩; exact ⟨rfl, Fut.refl _⟩
  simp only [Act.put, List.setIfInBounds_toArray, List.set_cons_succ, List.set_cons_zero, List.nil_append, List.cons_append]
  apply Run.valG (by go_simp)
  · intro w1 h1 hk
    have hg := (Fut.drew _).trans h1; have q0 := h1.cell c0; have q1 := h1.cell c1
    have hcw := fun b o => Below.cell (p := ⟨b, o, none⟩) h1
    go_simp; rfl
  simp only [Act.put, List.setIfInBounds_toArray, List.set_cons_succ, List.set_cons_zero, List.nil_append, List.cons_append]
  apply Run.valG (wanted_none rfl _)
  · intro w1 h1 hk
    have hg := (Fut.drew _).trans h1; have q0 := h1.cell c0; have q1 := h1.cell c1
    have hcw := fun b o => Below.cell (p := ⟨b, o, none⟩) h1
    go_simp; rfl
  simp only [Act.put, List.setIfInBounds_toArray, List.set_cons_succ, List.set_cons_zero, List.nil_append, List.cons_append]
  apply Run.valG (wanted_none rfl _)
  · intro w1 h1 hk
    have hg := (Fut.drew _).trans h1; have q0 := h1.cell c0; have q1 := h1.cell c1
    have hcw := fun b o => Below.cell (p := ⟨b, o, none⟩) h1
    go_simp; rfl
  simp only [Act.put, List.setIfInBounds_toArray, List.set_cons_succ, List.set_cons_zero, List.nil_append, List.cons_append]
  apply Run.done
  intro w2 h2 hk
  clear hk
  go_wp2
  go_ret
  exact ⟨rfl, (Fut.drew _).trans h2⟩
set_option maxHeartbeats 1600000 in
set_option maxRecDepth 100000 in
theorem whole_any {B : Nat} {w : World} {bb off : Nat} {S : Option RSt} {O FT FD : Nat → Prop} {p q : Option Addr} {kv : Value} {f t : Int} (h : BothAt B w bb off S O p q kv f t FT FD) (hl : (rowsS S).length ≤ 1353244080301) :
    Calls Try.prog 28 #[.pointer (some ⟨bb, off, none⟩)] w fun e w' => e = .returned (.bool true) ∧ Fut w w' := by
  have H := Lib.hid h
  obtain ⟨c0, c1, _⟩ := h.cell
  have hoks := h.T.oks
  clear h
  go_enter Try.func28, Try.ntmps28
  go_wp2_with fail
  refine wp_graph 39 [.d, .d, .d, .d, .d, .d, .d, .d, .d, .d, .d, .d, .r (fun v w => ∃ lb, v = .func (.func 35) #[] lb ∧ SeqAt w lb (.pointer p) 0 (rowsS S).length), .d, .d, .d, .d, .d, .d, .d, .d, .d, .r (fun v w' => SlRep 25 maxLen RNb w' v (nbL (rowsS S) 0 (rowsS S).length)), .d, .d, .d, .d, .d, .d, .d, .r (fun v w => ∃ ys, sortS S ys ∧ SlRep 24 maxLen RR w v ys), .d, .d, .d, .d, .r (fun v w => ∃ ys, sortS S ys ∧ SlRep 24 maxLen RR w v ys), .d, .d, .d] (by kernel_rfl) (by kernel_rfl) (by kernel_rfl) ?_
  simp only [List.take_succ_cons, List.take_zero, List.drop_succ_cons, List.drop_zero, Exs]
  iterate 35 apply Exists.intro
  apply Run.valG (wanted_none rfl _)
  · intro w1 h1 hk
    have hg := (Fut.drew _).trans h1; have q0 := h1.cell c0; have q1 := h1.cell c1
    have hcw := fun b o => Below.cell (p := ⟨b, o, none⟩) h1
    go_simp; rfl
  simp only [Act.put, List.setIfInBounds_toArray, List.set_cons_succ, List.set_cons_zero, List.nil_append, List.cons_append]
  apply Run.call (wanted_none rfl _) (fun _ _ => by go_simp; exact ⟨rfl, rfl⟩)
  · intro w1 h1 hk
    have hg := (Fut.drew _).trans h1; have q0 := h1.cell c0; have q1 := h1.cell c1
    refine (sizes_any (H.out.fut hg)).mono ?_; rintro e w' ⟨rfl, hf⟩; exact ⟨rfl, hf⟩
  simp only [Act.put, List.setIfInBounds_toArray, List.set_cons_succ, List.set_cons_zero, List.nil_append, List.cons_append]
  apply Run.valG (wanted_none rfl _)
  · intro w1 h1 hk
    have hg := (Fut.drew _).trans h1; have q0 := h1.cell c0; have q1 := h1.cell c1
    have hcw := fun b o => Below.cell (p := ⟨b, o, none⟩) h1
    go_simp; rfl
  simp only [Act.put, List.setIfInBounds_toArray, List.set_cons_succ, List.set_cons_zero, List.nil_append, List.cons_append]
  apply Run.valG (by go_simp)
  · intro w1 h1 hk
    have hg := (Fut.drew _).trans h1; have q0 := h1.cell c0; have q1 := h1.cell c1
    have hcw := fun b o => Below.cell (p := ⟨b, o, none⟩) h1
    go_simp; rfl
  simp only [Act.put, List.setIfInBounds_toArray, List.set_cons_succ, List.set_cons_zero, List.nil_append, List.cons_append]
  apply Run.valG (by go_simp)
  · intro w1 h1 hk
    have hg := (Fut.drew _).trans h1; have q0 := h1.cell c0; have q1 := h1.cell c1
    have hcw := fun b o => Below.cell (p := ⟨b, o, none⟩) h1
    go_simp; rfl
  simp only [Act.put, List.setIfInBounds_toArray, List.set_cons_succ, List.set_cons_zero, List.nil_append, List.cons_append]
  apply Run.valG (by go_simp)
  · intro w1 h1 hk
    have hg := (Fut.drew _).trans h1; have q0 := h1.cell c0; have q1 := h1.cell c1
    have hcw := fun b o => Below.cell (p := ⟨b, o, none⟩) h1
    go_simp; rfl
  simp only [Act.put, List.setIfInBounds_toArray, List.set_cons_succ, List.set_cons_zero, List.nil_append, List.cons_append]
  apply Run.valG (by go_simp)
  · intro w1 h1 hk
    have hg := (Fut.drew _).trans h1; have q0 := h1.cell c0; have q1 := h1.cell c1
    have hcw := fun b o => Below.cell (p := ⟨b, o, none⟩) h1
    go_simp; rfl
  simp only [Act.put, List.setIfInBounds_toArray, List.set_cons_succ, List.set_cons_zero, List.nil_append, List.cons_append]
  apply Run.valG (by go_simp)
  · intro w1 h1 hk
    have hg := (Fut.drew _).trans h1; have q0 := h1.cell c0; have q1 := h1.cell c1
    have hcw := fun b o => Below.cell (p := ⟨b, o, none⟩) h1
    go_simp; rfl
  simp only [Act.put, List.setIfInBounds_toArray, List.set_cons_succ, List.set_cons_zero, List.nil_append, List.cons_append]
  apply Run.valG (by go_simp)
  · intro w1 h1 hk
    have hg := (Fut.drew _).trans h1; have q0 := h1.cell c0; have q1 := h1.cell c1
    have hcw := fun b o => Below.cell (p := ⟨b, o, none⟩) h1
    go_simp; rfl
  simp only [Act.put, List.setIfInBounds_toArray, List.set_cons_succ, List.set_cons_zero, List.nil_append, List.cons_append]
  apply Run.valG (by go_simp)
  · intro w1 h1 hk
    have hg := (Fut.drew _).trans h1; have q0 := h1.cell c0; have q1 := h1.cell c1
    have hcw := fun b o => Below.cell (p := ⟨b, o, none⟩) h1
    go_simp; rfl
  simp only [Act.put, List.setIfInBounds_toArray, List.set_cons_succ, List.set_cons_zero, List.nil_append, List.cons_append]
  apply Run.valG (by go_simp)
  · intro w1 h1 hk
    have hg := (Fut.drew _).trans h1; have q0 := h1.cell c0; have q1 := h1.cell c1
    have hcw := fun b o => Below.cell (p := ⟨b, o, none⟩) h1
    go_simp; rfl
  simp only [Act.put, List.setIfInBounds_toArray, List.set_cons_succ, List.set_cons_zero, List.nil_append, List.cons_append]
  apply Run.call (by go_simp) (fun _ _ => by go_simp; exact ⟨rfl, rfl⟩)
  · intro w1 h1 hk
    have hg := (Fut.drew _).trans h1; have q0 := h1.cell c0; have q1 := h1.cell c1
    refine (D_len (H.out.fut hg).D).mono ?_; rintro e w' ⟨rfl, rfl⟩; exact ⟨rfl, Fut.refl _⟩
  simp only [Act.put, List.setIfInBounds_toArray, List.set_cons_succ, List.set_cons_zero, List.nil_append, List.cons_append]
  apply Run.callR (by go_simp) (by intro v w w' hf hs; exact (by obtain ⟨lb, rfl, h⟩ := hs; exact ⟨lb, rfl, h.fut hf⟩)) (fun _ _ => by go_simp; exact ⟨rfl, rfl⟩)
  · intro w1 h1 hk
    have hg := (Fut.drew _).trans h1; have q0 := h1.cell c0; have q1 := h1.cell c1
    refine (range_any p _ _ _).mono ?_; rintro e w' ⟨lb, rfl, hq, hf⟩; exact ⟨_, rfl, hf, lb, rfl, hq⟩
  intro v12
  simp only [Act.put, List.setIfInBounds_toArray, List.set_cons_succ, List.set_cons_zero, List.nil_append, List.cons_append]
  apply Run.valG (by go_simp)
  · intro w1 h1 hk
    have hg := (Fut.drew _).trans h1; have q0 := h1.cell c0; have q1 := h1.cell c1
    have hcw := fun b o => Below.cell (p := ⟨b, o, none⟩) h1
    go_simp; rfl
  simp only [Act.put, List.setIfInBounds_toArray, List.set_cons_succ, List.set_cons_zero, List.nil_append, List.cons_append]
  apply Run.valG (by go_simp)
  · intro w1 h1 hk
    have hg := (Fut.drew _).trans h1; have q0 := h1.cell c0; have q1 := h1.cell c1
    have hcw := fun b o => Below.cell (p := ⟨b, o, none⟩) h1
    go_simp; rfl
  simp only [Act.put, List.setIfInBounds_toArray, List.set_cons_succ, List.set_cons_zero, List.nil_append, List.cons_append]
  apply Run.valG (by go_simp)
  · intro w1 h1 hk
    have hg := (Fut.drew _).trans h1; have q0 := h1.cell c0; have q1 := h1.cell c1
    have hcw := fun b o => Below.cell (p := ⟨b, o, none⟩) h1
    go_simp; rfl
  simp only [Act.put, List.setIfInBounds_toArray, List.set_cons_succ, List.set_cons_zero, List.nil_append, List.cons_append]
  apply Run.valG (by go_simp)
  · intro w1 h1 hk
    have hg := (Fut.drew _).trans h1; have q0 := h1.cell c0; have q1 := h1.cell c1
    have hcw := fun b o => Below.cell (p := ⟨b, o, none⟩) h1
    go_simp; rfl
  simp only [Act.put, List.setIfInBounds_toArray, List.set_cons_succ, List.set_cons_zero, List.nil_append, List.cons_append]
  apply Run.valG (by go_simp)
  · intro w1 h1 hk
    have hg := (Fut.drew _).trans h1; have q0 := h1.cell c0; have q1 := h1.cell c1
    have hcw := fun b o => Below.cell (p := ⟨b, o, none⟩) h1
    go_simp; rfl
  simp only [Act.put, List.setIfInBounds_toArray, List.set_cons_succ, List.set_cons_zero, List.nil_append, List.cons_append]
  apply Run.valG (by go_simp)
  · intro w1 h1 hk
    have hg := (Fut.drew _).trans h1; have q0 := h1.cell c0; have q1 := h1.cell c1
    have hcw := fun b o => Below.cell (p := ⟨b, o, none⟩) h1
    go_simp; rfl
  simp only [Act.put, List.setIfInBounds_toArray, List.set_cons_succ, List.set_cons_zero, List.nil_append, List.cons_append]
  apply Run.valG (by go_simp)
  · intro w1 h1 hk
    have hg := (Fut.drew _).trans h1; have q0 := h1.cell c0; have q1 := h1.cell c1
    have hcw := fun b o => Below.cell (p := ⟨b, o, none⟩) h1
    go_simp; rfl
  simp only [Act.put, List.setIfInBounds_toArray, List.set_cons_succ, List.set_cons_zero, List.nil_append, List.cons_append]
  apply Run.valG (by go_simp)
  · intro w1 h1 hk
    have hg := (Fut.drew _).trans h1; have q0 := h1.cell c0; have q1 := h1.cell c1
    have hcw := fun b o => Below.cell (p := ⟨b, o, none⟩) h1
    go_simp; rfl
  simp only [Act.put, List.setIfInBounds_toArray, List.set_cons_succ, List.set_cons_zero, List.nil_append, List.cons_append]
  apply Run.call (by go_simp) (fun _ _ => by go_simp; exact ⟨rfl, rfl⟩)
  · intro w1 h1 hk
    have f12 := Facts.get hk 0 rfl (by kernel_rfl)
    have hg := (Fut.drew _).trans h1; have q0 := h1.cell c0; have q1 := h1.cell c1
    refine (D_len (H.out.fut hg).D).mono ?_; rintro e w' ⟨rfl, rfl⟩; exact ⟨rfl, Fut.refl _⟩
  simp only [Act.put, List.setIfInBounds_toArray, List.set_cons_succ, List.set_cons_zero, List.nil_append, List.cons_append]
  apply Run.callR (by go_simp) (by intro v w w' hf hs; exact hs.fut RNb.stays hf) (fun _ _ => by go_simp; exact ⟨rfl, rfl⟩)
  · intro w1 h1 hk
    have hg := (Fut.drew _).trans h1; have q0 := h1.cell c0; have q1 := h1.cell c1
    refine (D_range (H.out.fut hg).D hl _ _).mono ?_; rintro e w' ⟨u, rfl, hO, hf⟩; exact ⟨_, rfl, hf, hO.rep⟩
  intro v22
  simp only [Act.put, List.setIfInBounds_toArray, List.set_cons_succ, List.set_cons_zero, List.nil_append, List.cons_append]
  apply Run.call (by go_simp) (fun _ _ => by go_simp; exact ⟨rfl, rfl⟩)
  · intro w1 h1 hk
    have f12 := Facts.get hk 0 rfl (by kernel_rfl)
    have f22 := Facts.get hk 1 rfl (by kernel_rfl)
    have hg := (Fut.drew _).trans h1; have q0 := h1.cell c0; have q1 := h1.cell c1
    obtain ⟨lb, rfl, hsq⟩ := f12; refine (tells_any hoks (fun W hW => T_iter ((H.out.fut hg).fut hW).T hl 0 _ lb (hsq.fut hW)) f22 (by omega) (-1) (.inr rfl)).mono ?_; rintro e w' ⟨rfl, hf⟩; exact ⟨rfl, hf⟩
  simp only [Act.put, List.setIfInBounds_toArray, List.set_cons_succ, List.set_cons_zero, List.nil_append, List.cons_append]
  apply Run.valG (wanted_none rfl _)
  · intro w1 h1 hk
    have hg := (Fut.drew _).trans h1; have q0 := h1.cell c0; have q1 := h1.cell c1
    have hcw := fun b o => Below.cell (p := ⟨b, o, none⟩) h1
    go_simp; rfl
  simp only [Act.put, List.setIfInBounds_toArray, List.set_cons_succ, List.set_cons_zero, List.nil_append, List.cons_append]
  apply Run.valG (wanted_none rfl _)
  · intro w1 h1 hk
    have hg := (Fut.drew _).trans h1; have q0 := h1.cell c0; have q1 := h1.cell c1
    have hcw := fun b o => Below.cell (p := ⟨b, o, none⟩) h1
    go_simp; rfl
  simp only [Act.put, List.setIfInBounds_toArray, List.set_cons_succ, List.set_cons_zero, List.nil_append, List.cons_append]
  apply Run.valG (by go_simp)
  · intro w1 h1 hk
    have hg := (Fut.drew _).trans h1; have q0 := h1.cell c0; have q1 := h1.cell c1
    have hcw := fun b o => Below.cell (p := ⟨b, o, none⟩) h1
    go_simp; rfl
  simp only [Act.put, List.setIfInBounds_toArray, List.set_cons_succ, List.set_cons_zero, List.nil_append, List.cons_append]
  apply Run.valG (by go_simp)
  · intro w1 h1 hk
    have hg := (Fut.drew _).trans h1; have q0 := h1.cell c0; have q1 := h1.cell c1
    have hcw := fun b o => Below.cell (p := ⟨b, o, none⟩) h1
    go_simp; rfl
  simp only [Act.put, List.setIfInBounds_toArray, List.set_cons_succ, List.set_cons_zero, List.nil_append, List.cons_append]
  apply Run.valG (by go_simp)
  · intro w1 h1 hk
    have hg := (Fut.drew _).trans h1; have q0 := h1.cell c0; have q1 := h1.cell c1
    have hcw := fun b o => Below.cell (p := ⟨b, o, none⟩) h1
    go_simp; rfl
  simp only [Act.put, List.setIfInBounds_toArray, List.set_cons_succ, List.set_cons_zero, List.nil_append, List.cons_append]
  apply Run.valG (by go_simp)
  · intro w1 h1 hk
    have hg := (Fut.drew _).trans h1; have q0 := h1.cell c0; have q1 := h1.cell c1
    have hcw := fun b o => Below.cell (p := ⟨b, o, none⟩) h1
    go_simp; rfl
  simp only [Act.put, List.setIfInBounds_toArray, List.set_cons_succ, List.set_cons_zero, List.nil_append, List.cons_append]
  apply Run.callR (by go_simp) (by intro v w w' hf hs; exact (by obtain ⟨ys, h1, h2⟩ := hs; exact ⟨ys, h1, h2.fut RR.stays hf⟩)) (fun _ _ => by go_simp; exact ⟨rfl, rfl⟩)
  · intro w1 h1 hk
    have hg := (Fut.drew _).trans h1; have q0 := h1.cell c0; have q1 := h1.cell c1
    refine (T_sorted (H.out.fut hg).T hl).mono ?_; rintro e w' ⟨v, ys, rfl, hs, hr, hf⟩; exact ⟨_, rfl, hf, ys, hs, hr⟩
  intro v30
  simp only [Act.put, List.setIfInBounds_toArray, List.set_cons_succ, List.set_cons_zero, List.nil_append, List.cons_append]
  apply Run.valG (by go_simp)
  · intro w1 h1 hk
    have hg := (Fut.drew _).trans h1; have q0 := h1.cell c0; have q1 := h1.cell c1
    have hcw := fun b o => Below.cell (p := ⟨b, o, none⟩) h1
    go_simp; rfl
  simp only [Act.put, List.setIfInBounds_toArray, List.set_cons_succ, List.set_cons_zero, List.nil_append, List.cons_append]
  apply Run.valG (by go_simp)
  · intro w1 h1 hk
    have hg := (Fut.drew _).trans h1; have q0 := h1.cell c0; have q1 := h1.cell c1
    have hcw := fun b o => Below.cell (p := ⟨b, o, none⟩) h1
    go_simp; rfl
  simp only [Act.put, List.setIfInBounds_toArray, List.set_cons_succ, List.set_cons_zero, List.nil_append, List.cons_append]
  apply Run.valG (by go_simp)
  · intro w1 h1 hk
    have hg := (Fut.drew _).trans h1; have q0 := h1.cell c0; have q1 := h1.cell c1
    have hcw := fun b o => Below.cell (p := ⟨b, o, none⟩) h1
    go_simp; rfl
  simp only [Act.put, List.setIfInBounds_toArray, List.set_cons_succ, List.set_cons_zero, List.nil_append, List.cons_append]
  apply Run.valG (by go_simp)
  · intro w1 h1 hk
    have hg := (Fut.drew _).trans h1; have q0 := h1.cell c0; have q1 := h1.cell c1
    have hcw := fun b o => Below.cell (p := ⟨b, o, none⟩) h1
    go_simp; rfl
  simp only [Act.put, List.setIfInBounds_toArray, List.set_cons_succ, List.set_cons_zero, List.nil_append, List.cons_append]
  apply Run.callR (by go_simp) (by intro v w w' hf hs; exact (by obtain ⟨ys, h1, h2⟩ := hs; exact ⟨ys, h1, h2.fut RR.stays hf⟩)) (fun _ _ => by go_simp; exact ⟨rfl, rfl⟩)
  · intro w1 h1 hk
    have f30 := Facts.get hk 2 rfl (by kernel_rfl)
    have hg := (Fut.drew _).trans h1; have q0 := h1.cell c0; have q1 := h1.cell c1
    obtain ⟨ys, hys, hr⟩ := f30; refine (D_sorted (H.out.fut hg).D hl hys).mono ?_; rintro e w' ⟨u, rfl, hr, hf⟩; exact ⟨_, rfl, hf, ys, hys, hr⟩
  intro v35
  simp only [Act.put, List.setIfInBounds_toArray, List.set_cons_succ, List.set_cons_zero, List.nil_append, List.cons_append]
  apply Run.call (by go_simp) (fun _ _ => by go_simp; exact ⟨rfl, rfl⟩)
  · intro w1 h1 hk
    have f30 := Facts.get hk 2 rfl (by kernel_rfl)
    have f35 := Facts.get hk 3 rfl (by kernel_rfl)
    have hg := (Fut.drew _).trans h1; have q0 := h1.cell c0; have q1 := h1.cell c1
    obtain ⟨ys, hys, hr⟩ := f30; obtain ⟨zs, hzs, hr2⟩ := f35; obtain rfl := sortS_one (H.out.T.nodup) hys hzs; refine (sameRows_any hr hr2 (by rw [hys.1.length_eq]; omega)).mono ?_; rintro e w' ⟨rfl, hf⟩; exact ⟨rfl, hf⟩
  simp only [Act.put, List.setIfInBounds_toArray, List.set_cons_succ, List.set_cons_zero, List.nil_append, List.cons_append]
  apply Run.valG (wanted_none rfl _)
  · intro w1 h1 hk
    have hg := (Fut.drew _).trans h1; have q0 := h1.cell c0; have q1 := h1.cell c1
    have hcw := fun b o => Below.cell (p := ⟨b, o, none⟩) h1
    go_simp; rfl
  simp only [Act.put, List.setIfInBounds_toArray, List.set_cons_succ, List.set_cons_zero, List.nil_append, List.cons_append]
  apply Run.valG (wanted_none rfl _)
  · intro w1 h1 hk
    have hg := (Fut.drew _).trans h1; have q0 := h1.cell c0; have q1 := h1.cell c1
    have hcw := fun b o => Below.cell (p := ⟨b, o, none⟩) h1
    go_simp; rfl
  simp only [Act.put, List.setIfInBounds_toArray, List.set_cons_succ, List.set_cons_zero, List.nil_append, List.cons_append]
  apply Run.done
  intro w2 h2 hk
  obtain ⟨f12, f22, f30, f35, _⟩ := hk
  go_wp2
  go_ret
  exact ⟨rfl, (Fut.drew _).trans h2⟩
end Go.Proofs.Ytcekphjcmippoaa
