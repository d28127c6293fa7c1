/- BothD -/
import Derived.Test.YtcekphjcmippoaaC16
/- does: Has, At, Select, Add. -/
namespace Go.Proofs.Ytcekphjcmippoaa
open Go.RowKit Go.WideMaps
set_option linter.unusedSimpArgs false
set_option linter.unusedVariables false

structure OpL where
  on : Int
  kind : Int
  n : Int
  m : Int
  mask : Nat
  row : Rw
def OpL.cells (o : OpL) : List Value := .int .i64 o.on :: .int .i64 o.kind :: .int .i64 o.n :: .int .i64 o.m :: .int .u32 o.mask :: Rw.cells o.row
def OpL.val (o : OpL) : Value := .agg o.cells.toArray
structure OpL.ok (o : OpL) : Prop where
  row : Rw.ok o.row
  mask : o.mask < 2 ^ 32
theorem op_row {w : World} {t : TypeId} {o : OpL} (ho : Rw.ok o.row) : RowAt (w.alloc (.cells o.cells.toArray t)) w.heap.size 5 o.row := ⟨ho, fun j c hj => by
  refine cell_at (heap_alloc_new w _) (5 + j) c ?_
  simpa [OpL.cells, show 5 + j = j + 1 + 1 + 1 + 1 + 1 by omega] using hj⟩
def SameBut (w w' : World) (bb lo hi : Nat) : Prop := ∀ arr ty, w.heap[bb]? = some (.cells arr ty (0, 0)) → ∃ arr' : Array Value, w'.heap[bb]? = some (.cells arr' ty (0, 0)) ∧ ∀ j, j < lo ∨ hi ≤ j → arr'[j]? = arr[j]?
theorem SameBut.of_same {w w' : World} {bb lo hi : Nat} (h : ∀ o, w.heap[bb]? = some o → w'.heap[bb]? = some o) : SameBut w w' bb lo hi := fun arr ty h0 => ⟨arr, h _ h0, fun _ _ => rfl⟩
theorem SameBut.trans {a b c : World} {bb lo hi : Nat} (h : SameBut a b bb lo hi) (k : SameBut b c bb lo hi) : SameBut a c bb lo hi := fun arr ty h0 => by
  obtain ⟨arr1, h1, h2⟩ := h arr ty h0
  obtain ⟨arr2, h3, h4⟩ := k arr1 ty h1
  exact ⟨arr2, h3, fun j hj => (h4 j hj).trans (h2 j hj)⟩
/-- What a call on a both leaves. -/
def Did (B : Nat) (w : World) (bb off : Nat) (S : Option RSt) (O : Nat → Prop) (p q : Option Addr) (e : Ending) (w' : World) : Prop :=
  e = .returned (.bool true) ∧ ∃ S' O' kv f t FT FD, BothAt B w' bb off S' O' p q kv f t FT FD ∧ (rowsS S').length ≤ (rowsS S).length + 1 ∧ goneS S' ≤ goneS S + 1 ∧ (S = none → S' = none) ∧
    (∀ k, O' k → O k ∨ w.heap.size ≤ k) ∧ Only (fun k => O k ∨ k = bb) w w' ∧ SameBut w w' bb (off + 2) (off + 5)
theorem did_same {B : Nat} {w w' : World} {bb off : Nat} {S : Option RSt} {O FT FD : Nat → Prop} {p q : Option Addr} {kv : Value} {f t : Int} (h : BothAt B w bb off S O p q kv f t FT FD) (hf : Fut w w') : Did B w bb off S O p q (.returned (.bool true)) w' :=
  ⟨rfl, S, O, kv, f, t, FT, FD, h.fut hf, by omega, by omega, id, fun k hk => .inl hk, Only.fut hf, SameBut.of_same fun o ho => hf.block ho⟩
theorem did_turn {B : Nat} {w w' : World} {bb off : Nat} {S S' : Option RSt} {O FT FD F1 F2 : Nat → Prop} {p q : Option Addr} {kv : Value} {f t : Int} (h : BothAt B w bb off S O p q kv f t FT FD)
    (hT : TAt B w' p S' F1) (hD : DAt B w' q S' F2) (hdis : ∀ k, F1 k → ¬ F2 k) (hb1 : ∀ k, F1 k → FT k ∨ w.heap.size ≤ k) (hb2 : ∀ k, F2 k → FD k ∨ w.heap.size ≤ k) (hO : Only (fun k => FT k ∨ FD k) w w')
    (hl : (rowsS S').length ≤ (rowsS S).length + 1) (hg : goneS S' ≤ goneS S + 1) (hn : S = none → S' = none) : Did B w bb off S O p q (.returned (.bool true)) w' := by
  have hs := hO.size
  have hnb : ¬ (FT bb ∨ FD bb) := fun k => h.nb (k.elim (h.fO _) (h.dO _))
  obtain ⟨arr, ty, b0, br⟩ := h.blk
  have hbb : bb < w.heap.size := (Array.getElem?_eq_some_iff.1 b0).1
  refine ⟨rfl, S', more O w w', kv, f, t, F1, F2, ⟨⟨arr, ty, hO.keeps b0 hnb, br⟩, hT, hD, fun k hk => ?_, fun k hk => ?_, hdis, fun hk => ?_, more_lt h.lt hs, Nat.le_trans h.base hs, ?_⟩, hl, hg, hn, fun k hk => hk.imp id fun h => h.1, hO.mono fun k _ hk => .inl (hk.elim (h.fO _) (h.dO _)), SameBut.of_same fun o ho => hO.keeps ho hnb⟩
  · exact (hb1 k hk).imp (h.fO k) fun h => ⟨h, hT.lt k hk⟩
  · exact (hb2 k hk).imp (h.dO k) fun h => ⟨h, hD.lt k hk⟩
  · exact hk.elim h.nb fun k => by omega
  · rcases h.kept with h1 | ⟨lb, h1, b1, b2, b3, h2, h3, h4, h5, h6⟩
    · exact .inl h1
    · have key : ∀ j, j = b1 ∨ j = b2 ∨ j = b3 → more O w w' j ∧ ¬ F1 j ∧ ¬ F2 j ∧ ¬ (FT j ∨ FD j) := fun j hj => by
        obtain ⟨a1, a2, a3⟩ := h6 j hj
        have hlt := h.lt j a1
        refine ⟨.inl a1, fun hk => (hb1 j hk).elim a2 fun h => by omega, fun hk => (hb2 j hk).elim a3 fun h => by omega, fun hk => hk.elim a2 a3⟩
      exact .inr ⟨lb, h1, b1, b2, b3, h2, hO.cell h3 (key b1 (.inl rfl)).2.2.2, hO.cell h4 (key b2 (.inr (.inl rfl))).2.2.2, hO.cell h5 (key b3 (.inr (.inr rfl))).2.2.2, fun j hj => ⟨(key j hj).1, (key j hj).2.1, (key j hj).2.2.1⟩⟩
theorem rem_len (S : Option RSt) (x : Rw) : (rowsS (remS S x)).length ≤ (rowsS S).length + 1 := by
  cases S with
  | none => exact Nat.zero_le _
  | some s => exact Nat.le_trans (List.length_erase_le (a := x) (l := s.xs)) (Nat.le_succ _)
theorem rem_gone (S : Option RSt) (x : Rw) : goneS (remS S x) ≤ goneS S + 1 := by
  cases S with
  | none => exact Nat.zero_le _
  | some s => show s.gone + (decide (x ∈ s.xs)).toNat ≤ s.gone + 1; cases decide (x ∈ s.xs) <;> simp
theorem add_len (S : Option RSt) (x : Rw) : (rowsS (addS S x)).length ≤ (rowsS S).length + 1 := by
  cases S with
  | none => exact Nat.zero_le _
  | some s => exact addL_len s.ar s.xs x
theorem add_gone (S : Option RSt) (x : Rw) : goneS (addS S x) ≤ goneS S + 1 := by
  cases S with
  | none => exact Nat.zero_le _
  | some s => exact Nat.le_succ _
section
variable {B : Nat} {w : World} {bb off : Nat} {S : Option RSt} {O FT FD : Nat → Prop} {p q : Option Addr} {kv : Value} {f t : Int}
set_option maxHeartbeats 1600000 in
set_option maxRecDepth 100000 in
theorem does_has (h : BothAt B w bb off S O p q kv f t FT FD) (hl : (rowsS S).length < 1353244080301) (hgn : goneS S < 4611686018427387904) (o : OpL) (ho : o.ok) (hk : o.kind = 2) :
    Calls Try.prog 26 #[.pointer (some ⟨bb, off, none⟩), o.val] w (Did B w bb off S O p q) := by
  have H := Lib.hid h
  obtain ⟨c0, c1, _⟩ := h.cell
  have hro := ho.row
  have hmo := ho.mask
  have hrow := op_row (w := w) (t := 67) hro
  have ck : (w.alloc (.cells o.cells.toArray 67)).cell? ⟨w.heap.size, 1, none⟩ = some (.int .i64 2) := by rw [← hk]; exact cell_at (heap_alloc_new w _) 1 _ rfl
  have cn : (w.alloc (.cells o.cells.toArray 67)).cell? ⟨w.heap.size, 2, none⟩ = some (.int .i64 o.n) := cell_at (heap_alloc_new w _) 2 _ rfl
  have cm : (w.alloc (.cells o.cells.toArray 67)).cell? ⟨w.heap.size, 4, none⟩ = some (.int .u32 o.mask) := cell_at (heap_alloc_new w _) 4 _ rfl
  have F1 := Fut.alloc w (.cells o.cells.toArray 67)
  clear h
  unfold OpL.val
  go_enter Try.func26, Try.ntmps26
  go_wp2_with fail
  obtain ⟨W1, hW⟩ : ∃ W1, w.alloc (.cells o.cells.toArray 67) = W1 := ⟨_, rfl⟩
  rw [hW] at hrow ck cn cm F1 ⊢
  clear hW
  replace c0 := F1.cell c0
  replace c1 := F1.cell c1
  have HW := Lib.hid (H.out.fut F1)
  obtain ⟨dx, hdx⟩ : ∃ d, decide (o.row ∈ rowsS S) = d := ⟨_, rfl⟩
  refine wp_graph 16 [.d, .d, .d, .d, .d, .d, .d, .d, .d, .d, .d, .d, .d, .d, .d, .d] (by kernel_rfl) (by kernel_rfl) (by kernel_rfl) ?_
  simp only [List.take_succ_cons, List.take_zero, List.drop_succ_cons, List.drop_zero, Exs]
  iterate 16 apply Exists.intro
  apply Run.valG (wanted_none rfl _)
  · intro w1 h1 hk
    have hg := (Fut.drew _).trans h1; have q0 := h1.cell c0; have q1 := h1.cell c1
    have hcw := fun b o => Below.cell (p := ⟨b, o, none⟩) h1
    go_simp; rfl
  simp only [Act.put, List.setIfInBounds_toArray, List.set_cons_succ, List.set_cons_zero, List.nil_append, List.cons_append]
  apply Run.valG (wanted_none rfl _)
  · intro w1 h1 hk
    have hg := (Fut.drew _).trans h1; have q0 := h1.cell c0; have q1 := h1.cell c1
    have hcw := fun b o => Below.cell (p := ⟨b, o, none⟩) h1
    go_simp; rfl
  simp only [Act.put, List.setIfInBounds_toArray, List.set_cons_succ, List.set_cons_zero, List.nil_append, List.cons_append]
  apply Run.valG (wanted_none rfl _)
  · intro w1 h1 hk
    have hg := (Fut.drew _).trans h1; have q0 := h1.cell c0; have q1 := h1.cell c1
    have hcw := fun b o => Below.cell (p := ⟨b, o, none⟩) h1
    go_simp; rfl
  simp only [Act.put, List.setIfInBounds_toArray, List.set_cons_succ, List.set_cons_zero, List.nil_append, List.cons_append]
  apply Run.valG (wanted_none rfl _)
  · intro w1 h1 hk
    have hg := (Fut.drew _).trans h1; have q0 := h1.cell c0; have q1 := h1.cell c1
    have hcw := fun b o => Below.cell (p := ⟨b, o, none⟩) h1
    go_simp; rfl
  simp only [Act.put, List.setIfInBounds_toArray, List.set_cons_succ, List.set_cons_zero, List.nil_append, List.cons_append]
  apply Run.valG (wanted_none rfl _)
  · intro w1 h1 hk
    have hg := (Fut.drew _).trans h1; have q0 := h1.cell c0; have q1 := h1.cell c1
    have hcw := fun b o => Below.cell (p := ⟨b, o, none⟩) h1
    go_simp; rfl
  simp only [Act.put, List.setIfInBounds_toArray, List.set_cons_succ, List.set_cons_zero, List.nil_append, List.cons_append]
  apply Run.valG (wanted_none rfl _)
  · intro w1 h1 hk
    have hg := (Fut.drew _).trans h1; have q0 := h1.cell c0; have q1 := h1.cell c1
    have hcw := fun b o => Below.cell (p := ⟨b, o, none⟩) h1
    exact exec_load_R rowTy _ rfl rfl (hrow.fut hg)
  simp only [Act.put, List.setIfInBounds_toArray, List.set_cons_succ, List.set_cons_zero, List.nil_append, List.cons_append]
  apply Run.call (wanted_none rfl _) (fun _ _ => by go_simp; exact ⟨rfl, rfl⟩)
  · intro w1 h1 hk
    have hg := (Fut.drew _).trans h1; have q0 := h1.cell c0; have q1 := h1.cell c1
    refine (T_has (HW.out.fut hg).T o.row hro).mono ?_; rintro e w' ⟨rfl, hf⟩; rw [hdx]; exact ⟨rfl, hf⟩
  simp only [Act.put, List.setIfInBounds_toArray, List.set_cons_succ, List.set_cons_zero, List.nil_append, List.cons_append]
  apply Run.valG (wanted_none rfl _)
  · intro w1 h1 hk
    have hg := (Fut.drew _).trans h1; have q0 := h1.cell c0; have q1 := h1.cell c1
    have hcw := fun b o => Below.cell (p := ⟨b, o, none⟩) h1
    go_simp; rfl
  simp only [Act.put, List.setIfInBounds_toArray, List.set_cons_succ, List.set_cons_zero, List.nil_append, List.cons_append]
  apply Run.valG (wanted_none rfl _)
  · intro w1 h1 hk
    have hg := (Fut.drew _).trans h1; have q0 := h1.cell c0; have q1 := h1.cell c1
    have hcw := fun b o => Below.cell (p := ⟨b, o, none⟩) h1
    go_simp; rfl
  simp only [Act.put, List.setIfInBounds_toArray, List.set_cons_succ, List.set_cons_zero, List.nil_append, List.cons_append]
  apply Run.valG (wanted_none rfl _)
  · intro w1 h1 hk
    have hg := (Fut.drew _).trans h1; have q0 := h1.cell c0; have q1 := h1.cell c1
    have hcw := fun b o => Below.cell (p := ⟨b, o, none⟩) h1
    go_simp; rfl
  simp only [Act.put, List.setIfInBounds_toArray, List.set_cons_succ, List.set_cons_zero, List.nil_append, List.cons_append]
  apply Run.valG (wanted_none rfl _)
  · intro w1 h1 hk
    have hg := (Fut.drew _).trans h1; have q0 := h1.cell c0; have q1 := h1.cell c1
    have hcw := fun b o => Below.cell (p := ⟨b, o, none⟩) h1
    go_simp; rfl
  simp only [Act.put, List.setIfInBounds_toArray, List.set_cons_succ, List.set_cons_zero, List.nil_append, List.cons_append]
  apply Run.valG (wanted_none rfl _)
  · intro w1 h1 hk
    have hg := (Fut.drew _).trans h1; have q0 := h1.cell c0; have q1 := h1.cell c1
    have hcw := fun b o => Below.cell (p := ⟨b, o, none⟩) h1
    go_simp; rfl
  simp only [Act.put, List.setIfInBounds_toArray, List.set_cons_succ, List.set_cons_zero, List.nil_append, List.cons_append]
  apply Run.valG (wanted_none rfl _)
  · intro w1 h1 hk
    have hg := (Fut.drew _).trans h1; have q0 := h1.cell c0; have q1 := h1.cell c1
    have hcw := fun b o => Below.cell (p := ⟨b, o, none⟩) h1
    exact exec_load_R rowTy _ rfl rfl (hrow.fut hg)
  simp only [Act.put, List.setIfInBounds_toArray, List.set_cons_succ, List.set_cons_zero, List.nil_append, List.cons_append]
  apply Run.call (wanted_none rfl _) (fun _ _ => by go_simp; exact ⟨rfl, rfl⟩)
  · intro w1 h1 hk
    have hg := (Fut.drew _).trans h1; have q0 := h1.cell c0; have q1 := h1.cell c1
    refine (D_has (HW.out.fut hg).D (by omega) o.row hro).mono ?_; rintro e w' ⟨rfl, hf⟩; rw [hdx]; exact ⟨rfl, hf⟩
  simp only [Act.put, List.setIfInBounds_toArray, List.set_cons_succ, List.set_cons_zero, List.nil_append, List.cons_append]
  apply Run.valG (wanted_none rfl _)
  · intro w1 h1 hk
    have hg := (Fut.drew _).trans h1; have q0 := h1.cell c0; have q1 := h1.cell c1
    have hcw := fun b o => Below.cell (p := ⟨b, o, none⟩) h1
    go_simp; rfl
  simp only [Act.put, List.setIfInBounds_toArray, List.set_cons_succ, List.set_cons_zero, List.nil_append, List.cons_append]
  apply Run.valG (wanted_none rfl _)
  · intro w1 h1 hk
    have hg := (Fut.drew _).trans h1; have q0 := h1.cell c0; have q1 := h1.cell c1
    have hcw := fun b o => Below.cell (p := ⟨b, o, none⟩) h1
    go_simp; rfl
  simp only [Act.put, List.setIfInBounds_toArray, List.set_cons_succ, List.set_cons_zero, List.nil_append, List.cons_append]
  apply Run.done
  intro w2 h2 hk
  clear hk
  go_wp2
  go_ret
  simp
  exact did_same H.out (F1.trans ((Fut.drew _).trans h2))
set_option maxHeartbeats 1600000 in
set_option maxRecDepth 100000 in
theorem does_select (h : BothAt B w bb off S O p q kv f t FT FD) (hl : (rowsS S).length < 1353244080301) (hgn : goneS S < 4611686018427387904) (o : OpL) (ho : o.ok) (hk : o.kind = 5) :
    Calls Try.prog 26 #[.pointer (some ⟨bb, off, none⟩), o.val] w (Did B w bb off S O p q) := by
  have H := Lib.hid h
  obtain ⟨c0, c1, _⟩ := h.cell
  have hro := ho.row
  have hmo := ho.mask
  have hrow := op_row (w := w) (t := 67) hro
  have ck : (w.alloc (.cells o.cells.toArray 67)).cell? ⟨w.heap.size, 1, none⟩ = some (.int .i64 5) := by rw [← hk]; exact cell_at (heap_alloc_new w _) 1 _ rfl
  have cn : (w.alloc (.cells o.cells.toArray 67)).cell? ⟨w.heap.size, 2, none⟩ = some (.int .i64 o.n) := cell_at (heap_alloc_new w _) 2 _ rfl
  have cm : (w.alloc (.cells o.cells.toArray 67)).cell? ⟨w.heap.size, 4, none⟩ = some (.int .u32 o.mask) := cell_at (heap_alloc_new w _) 4 _ rfl
  have F1 := Fut.alloc w (.cells o.cells.toArray 67)
  clear h
  unfold OpL.val
  go_enter Try.func26, Try.ntmps26
  go_wp2_with fail
  obtain ⟨W1, hW⟩ : ∃ W1, w.alloc (.cells o.cells.toArray 67) = W1 := ⟨_, rfl⟩
  rw [hW] at hrow ck cn cm F1 ⊢
  clear hW
  replace c0 := F1.cell c0
  replace c1 := F1.cell c1
  have HW := Lib.hid (H.out.fut F1)
  have hsl : (selS S o.mask o.row).length ≤ (rowsS S).length := by
    cases S with
    | none => exact Nat.le_refl _
    | some s => exact selK_len s.ar o.mask o.row s.xs s.xs.length
  refine wp_graph 20 [.d, .d, .d, .d, .d, .d, .d, .d, .r (fun v w => SlRep 1 maxLen RI w v (selS S o.mask o.row)), .d, .d, .d, .d, .d, .d, .d, .d, .r (fun v w => SlRep 1 maxLen RI w v (selS S o.mask o.row)), .d, .d] (by kernel_rfl) (by kernel_rfl) (by kernel_rfl) ?_
  simp only [List.take_succ_cons, List.take_zero, List.drop_succ_cons, List.drop_zero, Exs]
  iterate 18 apply Exists.intro
  apply Run.valG (wanted_none rfl _)
  · intro w1 h1 hk
    have hg := (Fut.drew _).trans h1; have q0 := h1.cell c0; have q1 := h1.cell c1; have q2 := h1.cell cm
    have hcw := fun b o => Below.cell (p := ⟨b, o, none⟩) h1
    go_simp; rfl
  simp only [Act.put, List.setIfInBounds_toArray, List.set_cons_succ, List.set_cons_zero, List.nil_append, List.cons_append]
  apply Run.valG (wanted_none rfl _)
  · intro w1 h1 hk
    have hg := (Fut.drew _).trans h1; have q0 := h1.cell c0; have q1 := h1.cell c1; have q2 := h1.cell cm
    have hcw := fun b o => Below.cell (p := ⟨b, o, none⟩) h1
    go_simp; rfl
  simp only [Act.put, List.setIfInBounds_toArray, List.set_cons_succ, List.set_cons_zero, List.nil_append, List.cons_append]
  apply Run.valG (wanted_none rfl _)
  · intro w1 h1 hk
    have hg := (Fut.drew _).trans h1; have q0 := h1.cell c0; have q1 := h1.cell c1; have q2 := h1.cell cm
    have hcw := fun b o => Below.cell (p := ⟨b, o, none⟩) h1
    go_simp; rfl
  simp only [Act.put, List.setIfInBounds_toArray, List.set_cons_succ, List.set_cons_zero, List.nil_append, List.cons_append]
  apply Run.valG (wanted_none rfl _)
  · intro w1 h1 hk
    have hg := (Fut.drew _).trans h1; have q0 := h1.cell c0; have q1 := h1.cell c1; have q2 := h1.cell cm
    have hcw := fun b o => Below.cell (p := ⟨b, o, none⟩) h1
    go_simp; rfl
  simp only [Act.put, List.setIfInBounds_toArray, List.set_cons_succ, List.set_cons_zero, List.nil_append, List.cons_append]
  apply Run.valG (wanted_none rfl _)
  · intro w1 h1 hk
    have hg := (Fut.drew _).trans h1; have q0 := h1.cell c0; have q1 := h1.cell c1; have q2 := h1.cell cm
    have hcw := fun b o => Below.cell (p := ⟨b, o, none⟩) h1
    go_simp; rfl
  simp only [Act.put, List.setIfInBounds_toArray, List.set_cons_succ, List.set_cons_zero, List.nil_append, List.cons_append]
  apply Run.valG (wanted_none rfl _)
  · intro w1 h1 hk
    have hg := (Fut.drew _).trans h1; have q0 := h1.cell c0; have q1 := h1.cell c1; have q2 := h1.cell cm
    have hcw := fun b o => Below.cell (p := ⟨b, o, none⟩) h1
    go_simp; rfl
  simp only [Act.put, List.setIfInBounds_toArray, List.set_cons_succ, List.set_cons_zero, List.nil_append, List.cons_append]
  apply Run.valG (wanted_none rfl _)
  · intro w1 h1 hk
    have hg := (Fut.drew _).trans h1; have q0 := h1.cell c0; have q1 := h1.cell c1; have q2 := h1.cell cm
    have hcw := fun b o => Below.cell (p := ⟨b, o, none⟩) h1
    go_simp; rfl
  simp only [Act.put, List.setIfInBounds_toArray, List.set_cons_succ, List.set_cons_zero, List.nil_append, List.cons_append]
  apply Run.valG (wanted_none rfl _)
  · intro w1 h1 hk
    have hg := (Fut.drew _).trans h1; have q0 := h1.cell c0; have q1 := h1.cell c1; have q2 := h1.cell cm
    have hcw := fun b o => Below.cell (p := ⟨b, o, none⟩) h1
    exact exec_load_R rowTy _ rfl rfl (hrow.fut hg)
  simp only [Act.put, List.setIfInBounds_toArray, List.set_cons_succ, List.set_cons_zero, List.nil_append, List.cons_append]
  apply Run.callR (wanted_none rfl _) (by intro v w w' hf hs; exact hs.fut RI.stays hf) (fun _ _ => by go_simp; exact ⟨rfl, rfl⟩)
  · intro w1 h1 hk
    have hg := (Fut.drew _).trans h1; have q0 := h1.cell c0; have q1 := h1.cell c1; have q2 := h1.cell cm
    refine (T_select (HW.out.fut hg).T hmo (by omega) o.row hro).mono ?_; rintro e w' ⟨v, rfl, hO, hf⟩; exact ⟨_, rfl, hf, hO.rep⟩
  intro v8
  simp only [Act.put, List.setIfInBounds_toArray, List.set_cons_succ, List.set_cons_zero, List.nil_append, List.cons_append]
  apply Run.valG (wanted_none rfl _)
  · intro w1 h1 hk
    have hg := (Fut.drew _).trans h1; have q0 := h1.cell c0; have q1 := h1.cell c1; have q2 := h1.cell cm
    have hcw := fun b o => Below.cell (p := ⟨b, o, none⟩) h1
    go_simp; rfl
  simp only [Act.put, List.setIfInBounds_toArray, List.set_cons_succ, List.set_cons_zero, List.nil_append, List.cons_append]
  apply Run.valG (wanted_none rfl _)
  · intro w1 h1 hk
    have hg := (Fut.drew _).trans h1; have q0 := h1.cell c0; have q1 := h1.cell c1; have q2 := h1.cell cm
    have hcw := fun b o => Below.cell (p := ⟨b, o, none⟩) h1
    go_simp; rfl
  simp only [Act.put, List.setIfInBounds_toArray, List.set_cons_succ, List.set_cons_zero, List.nil_append, List.cons_append]
  apply Run.valG (wanted_none rfl _)
  · intro w1 h1 hk
    have hg := (Fut.drew _).trans h1; have q0 := h1.cell c0; have q1 := h1.cell c1; have q2 := h1.cell cm
    have hcw := fun b o => Below.cell (p := ⟨b, o, none⟩) h1
    go_simp; rfl
  simp only [Act.put, List.setIfInBounds_toArray, List.set_cons_succ, List.set_cons_zero, List.nil_append, List.cons_append]
  apply Run.valG (wanted_none rfl _)
  · intro w1 h1 hk
    have hg := (Fut.drew _).trans h1; have q0 := h1.cell c0; have q1 := h1.cell c1; have q2 := h1.cell cm
    have hcw := fun b o => Below.cell (p := ⟨b, o, none⟩) h1
    go_simp; rfl
  simp only [Act.put, List.setIfInBounds_toArray, List.set_cons_succ, List.set_cons_zero, List.nil_append, List.cons_append]
  apply Run.valG (wanted_none rfl _)
  · intro w1 h1 hk
    have hg := (Fut.drew _).trans h1; have q0 := h1.cell c0; have q1 := h1.cell c1; have q2 := h1.cell cm
    have hcw := fun b o => Below.cell (p := ⟨b, o, none⟩) h1
    go_simp; rfl
  simp only [Act.put, List.setIfInBounds_toArray, List.set_cons_succ, List.set_cons_zero, List.nil_append, List.cons_append]
  apply Run.valG (wanted_none rfl _)
  · intro w1 h1 hk
    have hg := (Fut.drew _).trans h1; have q0 := h1.cell c0; have q1 := h1.cell c1; have q2 := h1.cell cm
    have hcw := fun b o => Below.cell (p := ⟨b, o, none⟩) h1
    go_simp; rfl
  simp only [Act.put, List.setIfInBounds_toArray, List.set_cons_succ, List.set_cons_zero, List.nil_append, List.cons_append]
  apply Run.valG (wanted_none rfl _)
  · intro w1 h1 hk
    have hg := (Fut.drew _).trans h1; have q0 := h1.cell c0; have q1 := h1.cell c1; have q2 := h1.cell cm
    have hcw := fun b o => Below.cell (p := ⟨b, o, none⟩) h1
    go_simp; rfl
  simp only [Act.put, List.setIfInBounds_toArray, List.set_cons_succ, List.set_cons_zero, List.nil_append, List.cons_append]
  apply Run.valG (wanted_none rfl _)
  · intro w1 h1 hk
    have hg := (Fut.drew _).trans h1; have q0 := h1.cell c0; have q1 := h1.cell c1; have q2 := h1.cell cm
    have hcw := fun b o => Below.cell (p := ⟨b, o, none⟩) h1
    exact exec_load_R rowTy _ rfl rfl (hrow.fut hg)
  simp only [Act.put, List.setIfInBounds_toArray, List.set_cons_succ, List.set_cons_zero, List.nil_append, List.cons_append]
  apply Run.callR (wanted_none rfl _) (by intro v w w' hf hs; exact hs.fut RI.stays hf) (fun _ _ => by go_simp; exact ⟨rfl, rfl⟩)
  · intro w1 h1 hk
    have f8 := Facts.get hk 0 rfl (by kernel_rfl)
    have hg := (Fut.drew _).trans h1; have q0 := h1.cell c0; have q1 := h1.cell c1; have q2 := h1.cell cm
    refine (D_select (HW.out.fut hg).D hmo (by omega) o.row hro).mono ?_; rintro e w' ⟨v, rfl, hO, hf⟩; exact ⟨_, rfl, hf, hO.rep⟩
  intro v17
  simp only [Act.put, List.setIfInBounds_toArray, List.set_cons_succ, List.set_cons_zero, List.nil_append, List.cons_append]
  apply Run.call (wanted_none rfl _) (fun _ _ => by go_simp; exact ⟨rfl, rfl⟩)
  · intro w1 h1 hk
    have f8 := Facts.get hk 0 rfl (by kernel_rfl)
    have f17 := Facts.get hk 1 rfl (by kernel_rfl)
    have hg := (Fut.drew _).trans h1; have q0 := h1.cell c0; have q1 := h1.cell c1; have q2 := h1.cell cm
    refine (sameInts_any f8 f17 (by omega)).mono ?_; rintro e w' ⟨rfl, hf⟩; exact ⟨rfl, hf⟩
  simp only [Act.put, List.setIfInBounds_toArray, List.set_cons_succ, List.set_cons_zero, List.nil_append, List.cons_append]
  apply Run.valG (wanted_none rfl _)
  · intro w1 h1 hk
    have hg := (Fut.drew _).trans h1; have q0 := h1.cell c0; have q1 := h1.cell c1; have q2 := h1.cell cm
    have hcw := fun b o => Below.cell (p := ⟨b, o, none⟩) h1
    go_simp; rfl
  simp only [Act.put, List.setIfInBounds_toArray, List.set_cons_succ, List.set_cons_zero, List.nil_append, List.cons_append]
  apply Run.done
  intro w2 h2 hk
  obtain ⟨f8, f17, _⟩ := hk
  go_wp2
  go_ret
  exact did_same H.out (F1.trans ((Fut.drew _).trans h2))
set_option maxHeartbeats 1600000 in
set_option maxRecDepth 100000 in
theorem does_remove (h : BothAt B w bb off S O p q kv f t FT FD) (hl : (rowsS S).length < 1353244080301) (hgn : goneS S < 4611686018427387904) (o : OpL) (ho : o.ok) (hk : o.kind = 4) :
    Calls Try.prog 26 #[.pointer (some ⟨bb, off, none⟩), o.val] w (Did B w bb off S O p q) := by
  have H := Lib.hid h
  obtain ⟨c0, c1, _⟩ := h.cell
  have hro := ho.row
  have hmo := ho.mask
  have hrow := op_row (w := w) (t := 67) hro
  have ck : (w.alloc (.cells o.cells.toArray 67)).cell? ⟨w.heap.size, 1, none⟩ = some (.int .i64 4) := by rw [← hk]; exact cell_at (heap_alloc_new w _) 1 _ rfl
  have cn : (w.alloc (.cells o.cells.toArray 67)).cell? ⟨w.heap.size, 2, none⟩ = some (.int .i64 o.n) := cell_at (heap_alloc_new w _) 2 _ rfl
  have cm : (w.alloc (.cells o.cells.toArray 67)).cell? ⟨w.heap.size, 4, none⟩ = some (.int .u32 o.mask) := cell_at (heap_alloc_new w _) 4 _ rfl
  have F1 := Fut.alloc w (.cells o.cells.toArray 67)
  clear h
  unfold OpL.val
  go_enter Try.func26, Try.ntmps26
  go_wp2_with fail
  obtain ⟨W1, hW⟩ : ∃ W1, w.alloc (.cells o.cells.toArray 67) = W1 := ⟨_, rfl⟩
  rw [hW] at hrow ck cn cm F1 ⊢
  clear hW
  replace c0 := F1.cell c0
  replace c1 := F1.cell c1
  have HW := Lib.hid (H.out.fut F1)
  obtain ⟨dx, hdx⟩ : ∃ d, decide (o.row ∈ rowsS S) = d := ⟨_, rfl⟩
  have hbW : B ≤ W1.heap.size := HW.out.base
  have hnt : ¬ FT bb := fun h => H.out.nb (H.out.fO _ h)
  have hnd : ¬ FD bb := fun h => H.out.nb (H.out.dO _ h)
  have hnt2 : ∀ k, FT k → k < w.heap.size := fun k hk => H.out.T.lt k hk
  have hnd2 : ∀ k, FD k → k < w.heap.size := fun k hk => H.out.D.lt k hk
  have hr1 : ∀ {a : World}, Only (fun k => FT k ∨ FD k) W1 a → RowAt a w.heap.size 5 o.row := fun h => hrow.only h fun h' => h'.elim (fun h' => by have := hnt2 _ h'; omega) (fun h' => by have := hnd2 _ h'; omega)
  letI : On.Mut := On.Mut.two 6 13 (Only FT) (Only FD) (Only fun k => FT k ∨ FD k) Only.fut Only.fut Only.fut Only.trans Only.trans
  refine On.wp_graph 16 [.d, .d, .d, .d, .d, .d, .r (fun v w' => v = .bool dx ∧ ∃ F', TAt B w' p (remS S o.row) F' ∧ ∀ k, F' k → FT k ∨ W1.heap.size ≤ k), .d, .d, .d, .d, .d, .d, .r (fun v w' => v = .bool dx ∧ ∃ F1 F2, TAt B w' p (remS S o.row) F1 ∧ DAt B w' q (remS S o.row) F2 ∧ (∀ k, F1 k → ¬ F2 k) ∧ (∀ k, F1 k → FT k ∨ W1.heap.size ≤ k) ∧ ∀ k, F2 k → FD k ∨ W1.heap.size ≤ k), .d, .d] (by kernel_rfl) (by kernel_rfl) (by kernel_rfl) (.inr fun _ _ => trivial) (On.two_dep (by kernel_rfl)) ?_
  simp only [List.take_succ_cons, List.take_zero, List.drop_succ_cons, List.drop_zero, Exs]
  iterate 14 apply Exists.intro
  apply On.Run.valG (.inr fun _ _ => trivial) (wanted_none rfl _)
  · intro w1 h1 hk
    have hg : Only (fun k => FT k ∨ FD k) W1 w1 := (Only.fut (Fut.drew _)).trans (by first | exact h1 | exact Only.fut h1 | exact Only.mono (show Only FT _ _ from h1) fun k _ hk => .inl hk); have q0 := hg.cell c0 (fun h => h.elim hnt hnd); have q1 := hg.cell c1 (fun h => h.elim hnt hnd)
    go_simp; rfl
  simp only [Act.put, List.setIfInBounds_toArray, List.set_cons_succ, List.set_cons_zero, List.nil_append, List.cons_append]
  apply On.Run.valG (.inr fun _ _ => trivial) (wanted_none rfl _)
  · intro w1 h1 hk
    have hg : Only (fun k => FT k ∨ FD k) W1 w1 := (Only.fut (Fut.drew _)).trans (by first | exact h1 | exact Only.fut h1 | exact Only.mono (show Only FT _ _ from h1) fun k _ hk => .inl hk); have q0 := hg.cell c0 (fun h => h.elim hnt hnd); have q1 := hg.cell c1 (fun h => h.elim hnt hnd)
    go_simp; rfl
  simp only [Act.put, List.setIfInBounds_toArray, List.set_cons_succ, List.set_cons_zero, List.nil_append, List.cons_append]
  apply On.Run.valG (.inr fun _ _ => trivial) (wanted_none rfl _)
  · intro w1 h1 hk
    have hg : Only (fun k => FT k ∨ FD k) W1 w1 := (Only.fut (Fut.drew _)).trans (by first | exact h1 | exact Only.fut h1 | exact Only.mono (show Only FT _ _ from h1) fun k _ hk => .inl hk); have q0 := hg.cell c0 (fun h => h.elim hnt hnd); have q1 := hg.cell c1 (fun h => h.elim hnt hnd)
    go_simp; rfl
  simp only [Act.put, List.setIfInBounds_toArray, List.set_cons_succ, List.set_cons_zero, List.nil_append, List.cons_append]
  apply On.Run.valG (.inr fun _ _ => trivial) (wanted_none rfl _)
  · intro w1 h1 hk
    have hg : Only (fun k => FT k ∨ FD k) W1 w1 := (Only.fut (Fut.drew _)).trans (by first | exact h1 | exact Only.fut h1 | exact Only.mono (show Only FT _ _ from h1) fun k _ hk => .inl hk); have q0 := hg.cell c0 (fun h => h.elim hnt hnd); have q1 := hg.cell c1 (fun h => h.elim hnt hnd)
    go_simp; rfl
  simp only [Act.put, List.setIfInBounds_toArray, List.set_cons_succ, List.set_cons_zero, List.nil_append, List.cons_append]
  apply On.Run.valG (.inr fun _ _ => trivial) (wanted_none rfl _)
  · intro w1 h1 hk
    have hg : Only (fun k => FT k ∨ FD k) W1 w1 := (Only.fut (Fut.drew _)).trans (by first | exact h1 | exact Only.fut h1 | exact Only.mono (show Only FT _ _ from h1) fun k _ hk => .inl hk); have q0 := hg.cell c0 (fun h => h.elim hnt hnd); have q1 := hg.cell c1 (fun h => h.elim hnt hnd)
    go_simp; rfl
  simp only [Act.put, List.setIfInBounds_toArray, List.set_cons_succ, List.set_cons_zero, List.nil_append, List.cons_append]
  apply On.Run.valG (.inr fun _ _ => trivial) (wanted_none rfl _)
  · intro w1 h1 hk
    have hg : Only (fun k => FT k ∨ FD k) W1 w1 := (Only.fut (Fut.drew _)).trans (by first | exact h1 | exact Only.fut h1 | exact Only.mono (show Only FT _ _ from h1) fun k _ hk => .inl hk); have q0 := hg.cell c0 (fun h => h.elim hnt hnd); have q1 := hg.cell c1 (fun h => h.elim hnt hnd)
    exact exec_load_R rowTy _ rfl rfl (hr1 hg)
  simp only [Act.put, List.setIfInBounds_toArray, List.set_cons_succ, List.set_cons_zero, List.nil_append, List.cons_append]
  apply On.Run.mutR (.inr fun _ _ => trivial) (wanted_none rfl _) (by intro v w w' hf hs; exact (by obtain ⟨rfl, F', h1, h2⟩ := hs; exact ⟨rfl, F', h1.only (show Only FD _ _ from hf) (fun k hk hd => by rcases h2 k hk with h | h; exact H.out.dis k h hd; have := hnd2 k hd; have := F1.size; omega), h2⟩)) (fun _ _ => by go_simp; exact ⟨rfl, rfl⟩)
  · intro w1 h1 hk
    have hg : Only (fun k => FT k ∨ FD k) W1 w1 := (Only.fut (Fut.drew _)).trans (by first | exact h1 | exact Only.fut h1 | exact Only.mono (show Only FT _ _ from h1) fun k _ hk => .inl hk); have q0 := hg.cell c0 (fun h => h.elim hnt hnd); have q1 := hg.cell c1 (fun h => h.elim hnt hnd)
    refine (T_remove (HW.out.fut ((Fut.drew _).trans h1)).T (HW.out.fut ((Fut.drew _).trans h1)).base (by omega) hgn o.row hro).mono ?_; rintro e w' ⟨rfl, hT, hO⟩; rw [hdx]; exact ⟨_, rfl, On.Eff.two1 hO (hO.mono fun k _ hk => .inl hk), rfl, _, hT, fun k hk => hk.imp id fun h => Nat.le_trans ((Fut.drew _).trans h1).size h.1⟩
  intro v6
  simp only [Act.put, List.setIfInBounds_toArray, List.set_cons_succ, List.set_cons_zero, List.nil_append, List.cons_append]
  apply On.Run.valG (.inr fun _ _ => trivial) (wanted_none rfl _)
  · intro w1 h1 hk
    have hg : Only (fun k => FT k ∨ FD k) W1 w1 := (Only.fut (Fut.drew _)).trans (by first | exact h1 | exact Only.fut h1 | exact Only.mono (show Only FT _ _ from h1) fun k _ hk => .inl hk); have q0 := hg.cell c0 (fun h => h.elim hnt hnd); have q1 := hg.cell c1 (fun h => h.elim hnt hnd)
    go_simp; rfl
  simp only [Act.put, List.setIfInBounds_toArray, List.set_cons_succ, List.set_cons_zero, List.nil_append, List.cons_append]
  apply On.Run.valG (.inr fun _ _ => trivial) (wanted_none rfl _)
  · intro w1 h1 hk
    have hg : Only (fun k => FT k ∨ FD k) W1 w1 := (Only.fut (Fut.drew _)).trans (by first | exact h1 | exact Only.fut h1 | exact Only.mono (show Only FT _ _ from h1) fun k _ hk => .inl hk); have q0 := hg.cell c0 (fun h => h.elim hnt hnd); have q1 := hg.cell c1 (fun h => h.elim hnt hnd)
    go_simp; rfl
  simp only [Act.put, List.setIfInBounds_toArray, List.set_cons_succ, List.set_cons_zero, List.nil_append, List.cons_append]
  apply On.Run.valG (.inr fun _ _ => trivial) (wanted_none rfl _)
  · intro w1 h1 hk
    have hg : Only (fun k => FT k ∨ FD k) W1 w1 := (Only.fut (Fut.drew _)).trans (by first | exact h1 | exact Only.fut h1 | exact Only.mono (show Only FT _ _ from h1) fun k _ hk => .inl hk); have q0 := hg.cell c0 (fun h => h.elim hnt hnd); have q1 := hg.cell c1 (fun h => h.elim hnt hnd)
    go_simp; rfl
  simp only [Act.put, List.setIfInBounds_toArray, List.set_cons_succ, List.set_cons_zero, List.nil_append, List.cons_append]
  apply On.Run.valG (.inr fun _ _ => trivial) (wanted_none rfl _)
  · intro w1 h1 hk
    have hg : Only (fun k => FT k ∨ FD k) W1 w1 := (Only.fut (Fut.drew _)).trans (by first | exact h1 | exact Only.fut h1 | exact Only.mono (show Only FT _ _ from h1) fun k _ hk => .inl hk); have q0 := hg.cell c0 (fun h => h.elim hnt hnd); have q1 := hg.cell c1 (fun h => h.elim hnt hnd)
    go_simp; rfl
  simp only [Act.put, List.setIfInBounds_toArray, List.set_cons_succ, List.set_cons_zero, List.nil_append, List.cons_append]
  apply On.Run.valG (.inr fun _ _ => trivial) (wanted_none rfl _)
  · intro w1 h1 hk
    have hg : Only (fun k => FT k ∨ FD k) W1 w1 := (Only.fut (Fut.drew _)).trans (by first | exact h1 | exact Only.fut h1 | exact Only.mono (show Only FT _ _ from h1) fun k _ hk => .inl hk); have q0 := hg.cell c0 (fun h => h.elim hnt hnd); have q1 := hg.cell c1 (fun h => h.elim hnt hnd)
    go_simp; rfl
  simp only [Act.put, List.setIfInBounds_toArray, List.set_cons_succ, List.set_cons_zero, List.nil_append, List.cons_append]
  apply On.Run.valG (.inr fun _ _ => trivial) (wanted_none rfl _)
  · intro w1 h1 hk
    have hg : Only (fun k => FT k ∨ FD k) W1 w1 := (Only.fut (Fut.drew _)).trans (by first | exact h1 | exact Only.fut h1 | exact Only.mono (show Only FT _ _ from h1) fun k _ hk => .inl hk); have q0 := hg.cell c0 (fun h => h.elim hnt hnd); have q1 := hg.cell c1 (fun h => h.elim hnt hnd)
    exact exec_load_R rowTy _ rfl rfl (hr1 hg)
  simp only [Act.put, List.setIfInBounds_toArray, List.set_cons_succ, List.set_cons_zero, List.nil_append, List.cons_append]
  apply On.Run.mutR (.inr fun _ _ => trivial) (wanted_none rfl _) (by intro v w w' hf hs; exact (by obtain ⟨rfl, F1, F2, h1, h2, h3⟩ := hs; exact ⟨rfl, F1, F2, h1.fut (show Fut _ _ from hf), h2.fut (show Fut _ _ from hf), h3⟩)) (fun _ _ => by go_simp; exact ⟨rfl, rfl⟩)
  · intro w1 h1 hk
    have f6 := Facts.get hk 0 rfl (by kernel_rfl)
    have hg : Only (fun k => FT k ∨ FD k) W1 w1 := (Only.fut (Fut.drew _)).trans (by first | exact h1 | exact Only.fut h1 | exact Only.mono (show Only FT _ _ from h1) fun k _ hk => .inl hk); have q0 := hg.cell c0 (fun h => h.elim hnt hnd); have q1 := hg.cell c1 (fun h => h.elim hnt hnd)
    obtain ⟨rfl, G1, hT, hb⟩ := f6; have hn1 : ∀ k, G1 k → ¬ FD k := fun k hk hd => (hb k hk).elim (fun h => H.out.dis k h hd) (fun h => by have := hnd2 k hd; have := F1.size; omega); refine (D_remove (HW.out.D.only ((Only.fut (Fut.drew _)).trans (show Only FT _ _ from h1)) fun k hd ht => H.out.dis k ht hd) (Nat.le_trans hbW hg.size) (by omega) hgn o.row hro).mono ?_; rintro e w' ⟨rfl, hD, hO⟩; rw [hdx]; exact ⟨_, rfl, On.Eff.two2 hO (hO.mono fun k _ hk => .inr hk), rfl, G1, _, hT.only hO hn1, hD, fun k h1 h2 => h2.elim (hn1 k h1) fun h => (by have := hT.lt k h1; omega), hb, fun k hk => hk.imp id fun h => Nat.le_trans hg.size h.1⟩
  intro v13
  simp only [Act.put, List.setIfInBounds_toArray, List.set_cons_succ, List.set_cons_zero, List.nil_append, List.cons_append]
  apply On.Run.valG (.inr fun _ _ => trivial) (wanted_none rfl _)
  · intro w1 h1 hk
    have f6 := Facts.get hk 0 rfl (by kernel_rfl)
    have f13 := Facts.get hk 1 rfl (by kernel_rfl)
    have hg : Only (fun k => FT k ∨ FD k) W1 w1 := (Only.fut (Fut.drew _)).trans (by first | exact h1 | exact Only.fut h1 | exact Only.mono (show Only FT _ _ from h1) fun k _ hk => .inl hk); have q0 := hg.cell c0 (fun h => h.elim hnt hnd); have q1 := hg.cell c1 (fun h => h.elim hnt hnd)
    obtain ⟨rfl, _⟩ := f6; obtain ⟨rfl, _⟩ := f13; go_simp; rfl
  simp only [Act.put, List.setIfInBounds_toArray, List.set_cons_succ, List.set_cons_zero, List.nil_append, List.cons_append]
  apply On.Run.valG (.inr fun _ _ => trivial) (wanted_none rfl _)
  · intro w1 h1 hk
    have f13 := Facts.get hk 1 rfl (by kernel_rfl)
    have hg : Only (fun k => FT k ∨ FD k) W1 w1 := (Only.fut (Fut.drew _)).trans (by first | exact h1 | exact Only.fut h1 | exact Only.mono (show Only FT _ _ from h1) fun k _ hk => .inl hk); have q0 := hg.cell c0 (fun h => h.elim hnt hnd); have q1 := hg.cell c1 (fun h => h.elim hnt hnd)
    go_simp; rfl
  simp only [Act.put, List.setIfInBounds_toArray, List.set_cons_succ, List.set_cons_zero, List.nil_append, List.cons_append]
  apply On.Run.done
  intro w2 h2 hk hJ
  obtain ⟨f6, f13, _⟩ := hk
  obtain ⟨rfl, G1, G2, hT, hD, hdis, hb1, hb2⟩ := f13
  have hO : Only (fun k => FT k ∨ FD k) w w2 := ((Only.fut F1).trans (Only.fut (Fut.drew _))).trans (show Only (fun k => FT k ∨ FD k) _ _ from h2)
  have hs1 := F1.size
  go_wp2
  go_ret
  exact did_turn H.out hT hD hdis (fun k hk => (hb1 k hk).imp id fun h => by omega) (fun k hk => (hb2 k hk).imp id fun h => by omega) hO (rem_len S o.row) (rem_gone S o.row) (fun h => by rw [h]; rfl)
end
end Go.Proofs.Ytcekphjcmippoaa
