/- Rows in memory: read and written whole; what may have turned. No program. -/
import Derived.Test.YtcekphjcmippoaaRow
import Derived.Test.YtcekphjcmippoaaRange
import Derived.Deep.MidRow
namespace Go.Proofs.Ytcekphjcmippoaa
open Go.RowKit Go.WideMaps
set_option linter.unusedSimpArgs false
set_option linter.unusedVariables false

/-! ### What may have turned -/
/-- Nothing but the blocks of S has turned. -/
structure Only (S : Nat → Prop) (w w' : World) : Prop where
  os : w'.os = w.os
  tape : w'.tape = w.tape
  output : w'.output = w.output
  size : w.heap.size ≤ w'.heap.size
  block : ∀ k, k < w.heap.size → ¬ S k → w'.heap[k]? = w.heap[k]?
theorem Only.fut {S : Nat → Prop} {w w' : World} (h : Fut w w') : Only S w w' := ⟨h.os, h.tape, h.output, h.size, fun k hk _ => Below.block h k hk⟩
theorem Only.toFut {S : Nat → Prop} {w w' : World} (h : Only S w w') (hS : ∀ k, S k → w.heap.size ≤ k) : Fut w w' := ⟨h.os, h.tape, h.output, h.size, fun k hk => h.block k hk fun hs => by have := hS k hs; omega⟩
theorem Only.refl {S : Nat → Prop} (w : World) : Only S w w := Only.fut (Fut.refl w)
theorem Only.trans {S : Nat → Prop} {a b c : World} (h : Only S a b) (k : Only S b c) : Only S a c :=
  ⟨k.os.trans h.os, k.tape.trans h.tape, k.output.trans h.output, Nat.le_trans h.size k.size, fun i hi hn => (k.block i (Nat.lt_of_lt_of_le hi h.size) hn).trans (h.block i hi hn)⟩
theorem Only.mono {S S' : Nat → Prop} {w w' : World} (h : Only S w w') (hS : ∀ k, k < w.heap.size → S k → S' k) : Only S' w w' :=
  ⟨h.os, h.tape, h.output, h.size, fun k hk hn => h.block k hk fun hs => hn (hS k hk hs)⟩
/-- .. the second step turns what the first may turn, or what is new. -/
theorem Only.then {S S' : Nat → Prop} {a b c : World} (h : Only S a b) (k : Only S' b c) (hS : ∀ i, S' i → i < a.heap.size → S i) : Only S a c :=
  ⟨k.os.trans h.os, k.tape.trans h.tape, k.output.trans h.output, Nat.le_trans h.size k.size, fun i hi hn => (k.block i (Nat.lt_of_lt_of_le hi h.size) (fun hs => hn (hS i hs hi))).trans (h.block i hi hn)⟩
theorem Only.grown {S : Nat → Prop} {w w' : World} {row : Option Nat} (hg : w.grownBy w' row) (hS : ∀ k, row = some k → S k) : Only S w w' :=
  ⟨hg.os, hg.tape, hg.output, hg.size, fun k hk hn => hg.block k hk (fun e => hn (hS k e.symm))⟩
theorem Only.set {S : Nat → Prop} {w : World} (p : Addr) (v : Value) (hS : S p.block) : Only S w (w.setCell p v) :=
  ⟨rfl, rfl, rfl, by show _ ≤ (w.heap.modify _ _).size; rw [Array.size_modify]; exact Nat.le_refl _, fun k hk hn => Below.heap_setCell w p v k (fun e => hn (e ▸ hS))⟩
theorem Only.put {S : Nat → Prop} {w : World} (g : Nat) (o : Obj) (hS : S g) : Only S w (w.putObj g o) :=
  ⟨rfl, rfl, rfl, by simp [World.putObj], fun k hk hn => World.putObj_heap_other (fun e => hn (e ▸ hS))⟩
theorem Only.keeps {S : Nat → Prop} {w w' : World} (h : Only S w w') {k : Nat} {o : Obj} (ho : w.heap[k]? = some o) (hn : ¬ S k) : w'.heap[k]? = some o :=
  (h.block k (Array.getElem?_eq_some_iff.1 ho).1 hn).trans ho
theorem Only.cell {S : Nat → Prop} {w w' : World} (h : Only S w w') {p : Addr} {v : Value} (hc : w.cell? p = some v) (hn : ¬ S p.block) : w'.cell? p = some v :=
  (World.cell?_of_block (h.block p.block (lt_of_cell hc) hn)).trans hc

/-! ### Rows in memory -/
/-- The row x lies in block b from offset off on. -/
def RowAt (w : World) (b off : Nat) (x : Rw) : Prop := Rw.ok x ∧ ∀ j c, (Rw.cells x)[j]? = some c → w.cell? ⟨b, off + j, none⟩ = some c
theorem RowAt.fut {w w' : World} {b off : Nat} {x : Rw} (h : RowAt w b off x) (hf : Fut w w') : RowAt w' b off x := ⟨h.1, fun j c hj => hf.cell (h.2 j c hj)⟩
theorem RowAt.only {S : Nat → Prop} {w w' : World} {b off : Nat} {x : Rw} (h : RowAt w b off x) (ho : Only S w w') (hn : ¬ S b) : RowAt w' b off x := ⟨h.1, fun j c hj => ho.cell (h.2 j c hj) hn⟩
theorem RowAt.of_block {w : World} {b : Nat} {t : TypeId} {fr : Nat × Nat} {x : Rw} (hx : Rw.ok x) (h : w.heap[b]? = some (.cells (Rw.cells x).toArray t fr)) : RowAt w b 0 x := ⟨hx, fun j c hj => by
  rw [Nat.zero_add]; simp [World.cell?, h, hj]⟩
theorem RowAt.new (w : World) (t : TypeId) {x : Rw} (hx : Rw.ok x) : RowAt (w.alloc (.cells (Rw.cells x).toArray t)) w.heap.size 0 x := RowAt.of_block hx (heap_alloc_new w _)
/-- An element of a list of rows. -/
theorem rows_at {w : World} {A : Option Addr} {n cap M : Nat} {xs : List Rw} (h : SlRep 24 M RR w (.slice A n cap) xs) {k : Nat} (hk : k < xs.length) : ∃ b off, A = some ⟨b, off, none⟩ ∧ RowAt w b (off + k * 24) xs[k] := by
  obtain ⟨A1, cap1, hv, _, _, h3⟩ := h
  obtain ⟨b, off, cs, hA, hl, hc, hr⟩ := h3 k _ (List.getElem?_eq_getElem hk)
  injection hv with hv _ _
  refine ⟨b, off, hv.trans hA, hr.2, fun j c hj => ?_⟩
  rw [← hr.1] at hj
  rw [Nat.add_assoc]
  exact hc j c hj
theorem rows_ok {w : World} {v : Value} {M : Nat} {xs : List Rw} (h : SlRep 24 M RR w v xs) : ∀ x ∈ xs, Rw.ok x := by
  obtain ⟨A, cap, _, _, _, h3⟩ := h
  intro x hx
  obtain ⟨i, hi⟩ := List.getElem?_of_mem hx
  obtain ⟨_, _, _, _, _, _, hr⟩ := h3 i x hi
  exact hr.2

structure RowTy (P : Program) (k e : TypeId) : Prop where
  A : ArrKey P k e 24
  he : P.underlying e = some (.int .i32)
  hsz : ∃ m, P.types.size = m + 1
  hi : (P.info? k).map (·.size) = some 24
section
variable {P : Program} {k e : TypeId} {w : World} {b off : Nat} {r : Rw} {o : Oper} {a : Act}
theorem run_loadVar_R (T : RowTy P k e) (hr : RowAt w b off r) : (loadVar k ⟨b, off, none⟩).run P w = .ok (Rw.val r) w :=
  run_loadVar_mid w b off k (Rw.cells r) _ (fun j v hj => hr.2 j v hj) T.A.hu rfl (by rw [T.hi, Rw.cells_len hr.1])
theorem exec_load_R (T : RowTy P k e) (x : Operand) (ho : o.op = .load k x) (hx : a.eval x = .pointer (some ⟨b, off, none⟩)) (hr : RowAt w b off r) : (execOp a.eval o).run P w = .ok (.value (Rw.val r)) w := by
  unfold execOp
  simp only [ho, hx, Instr.loadAt, Instr.sureAddr, Sem.run_bind, Sem.run_pure, Result.andThen_ok, run_loadVar_R T hr]
theorem wpList_of_run {ops : Array Oper} {rest : List Oper} {Q : Exit → Act → World → Prop} {v : Value} {w' : World} (hgd : Region.wanted o (yielded ops a.tmps) = true)
    (hrun : (execOp a.eval o).run P w = .ok (.value v) w') (h : wpList P ops Q rest (a.put o.dst v) w') : wpList P ops Q (o :: rest) a w := by
  refine wpList_step fun K hK => ?_
  rw [if_pos hgd]
  unfold Oper.wp
  rw [hrun]
  exact hK _ _ h
theorem wpList_of_skip {ops : Array Oper} {rest : List Oper} {Q : Exit → Act → World → Prop} {w' : World} (hgd : Region.wanted o (yielded ops a.tmps) = true)
    (hrun : (execOp a.eval o).run P w = .ok .skip w') (h : wpList P ops Q rest (a.put o.dst undef) w') : wpList P ops Q (o :: rest) a w := by
  refine wpList_step fun K hK => ?_
  rw [if_pos hgd]
  unfold Oper.wp
  rw [hrun]
  exact hK _ _ h
theorem wpList_load_R {ops : Array Oper} {rest : List Oper} {Q : Exit → Act → World → Prop} (T : RowTy P k e) (hgd : Region.wanted o (yielded ops a.tmps) = true) (x : Operand) (ho : o.op = .load k x) (hx : a.eval x = .pointer (some ⟨b, off, none⟩)) (hr : RowAt w b off r)
    (h : wpList P ops Q rest (a.put o.dst (Rw.val r)) w) : wpList P ops Q (o :: rest) a w :=
  wpList_of_run hgd (exec_load_R T x ho hx hr) h

theorem setCells_put {t : TypeId} {fr : Nat × Nat} : ∀ (vs : List Value) (o : Nat) (w : World) (arr : Array Value), w.heap[b]? = some (.cells arr t fr) →
    ∃ arr', w.setCells b o vs = w.putObj b (.cells arr' t fr) ∧ arr'.size = arr.size ∧ ∀ j, arr'[j]? = if o ≤ j ∧ j < o + vs.length ∧ j < arr.size then vs[j - o]? else arr[j]?
  | [], o, w, arr, h => ⟨arr, by
      simp only [World.setCells, World.putObj]
      have hlt := (Array.getElem?_eq_some_iff.1 h)
      obtain ⟨hl, he⟩ := hlt
      have : w.heap.setIfInBounds b (.cells arr t fr) = w.heap := by
        refine Array.ext_getElem? fun i => ?_
        by_cases hi : i = b
        · subst hi; rw [h]; simp [hl]
        · rw [Array.getElem?_setIfInBounds_ne (Ne.symm hi)]
      rw [this], rfl, fun j => by rw [if_neg (by simp; omega)]⟩
  | v :: vs, o, w, arr, h => by
    have hs : (w.setCell ⟨b, o, none⟩ v).heap[b]? = some (.cells (arr.setIfInBounds o v) t fr) := by simp [World.setCell, Array.getElem?_modify, h]
    obtain ⟨arr', h1, h2, h3⟩ := setCells_put vs (o + 1) _ _ hs
    refine ⟨arr', ?_, by rw [h2]; simp, fun j => ?_⟩
    · simp only [World.setCells]
      rw [h1]
      simp only [World.putObj, World.setCell]
      congr 1
      refine Array.ext_getElem? fun i => ?_
      by_cases hi : i = b
      · subst hi
        have hl := (Array.getElem?_eq_some_iff.1 h).1
        simp [hl]
      · rw [Array.getElem?_setIfInBounds_ne (Ne.symm hi), Array.getElem?_setIfInBounds_ne (Ne.symm hi), Array.getElem?_modify, if_neg (Ne.symm hi)]
    · rw [h3]
      simp only [Array.size_setIfInBounds, List.length_cons]
      by_cases h4 : j = o
      · subst h4
        rw [if_neg (by omega)]
        by_cases h5 : j < arr.size
        · rw [if_pos (by omega)]; simp [h5]
        · rw [if_neg (by omega)]; simp [h5]
      · rw [Array.getElem?_setIfInBounds_ne (Ne.symm h4)]
        by_cases h5 : o + 1 ≤ j ∧ j < o + 1 + vs.length ∧ j < arr.size
        · rw [if_pos h5, if_pos (by omega), show j - o = (j - (o + 1)) + 1 by omega, List.getElem?_cons_succ]
        · rw [if_neg h5, if_neg (by omega)]
/-- A row is written over a block of 24 cells. -/
theorem exec_store_R (T : RowTy P k e) {t : TypeId} {arr : Array Value} (x y : Operand) (ho : o.op = .store k x y) (hx : a.eval x = .pointer (some ⟨b, 0, none⟩)) (hy : a.eval y = Rw.val r) (hb : w.heap[b]? = some (.cells arr t (0, 0))) (hs : arr.size = 24) (hr : Rw.ok r) :
    (execOp a.eval o).run P w = .ok .skip (w.putObj b (.cells (Rw.cells r).toArray t (0, 0))) := by
  have hl := Rw.cells_len hr
  have hsz : (Rw.cells r).toArray.size = 24 := by simpa using hl
  have h1 := run_storeVar_mid (P := P) w b 0 k (Rw.cells r).toArray (fun j hj => by
    rw [hsz] at hj
    refine ⟨?_, ?_⟩
    · rw [Nat.zero_add]; simp [World.cell?, hb]; try omega
    · simp [World.frozen?, hb]) (by rw [T.hi, hsz]) (all_oneCell_toArray fun v hv => RR.one w _ r ⟨rfl, hr⟩ v hv)
  obtain ⟨arr', h2, h3, h4⟩ := setCells_put (Rw.cells r) 0 w arr hb
  have e1 : arr' = (Rw.cells r).toArray := by
    refine Array.ext_getElem? fun j => ?_
    rw [h4]
    by_cases hj : j < 24
    · rw [if_pos (by omega)]; simp
    · rw [if_neg (by omega)]
      rw [Array.getElem?_eq_none (by omega), Array.getElem?_eq_none (by omega)]
  simp only at h1
  rw [h2, e1] at h1
  unfold execOp
  simp only [ho, hx, hy, Rw.val, Instr.storeAt, Instr.sureAddr, Sem.run_bind, Sem.run_pure, Result.andThen_ok, h1]
theorem putObj_alloc (w : World) (o o' : Obj) : (w.alloc o).putObj w.heap.size o' = w.alloc o' := by
  unfold World.putObj World.alloc
  congr 1
  refine Array.ext_getElem? fun j => ?_
  by_cases hj : j = w.heap.size
  · subst hj; simp
  · rw [Array.getElem?_setIfInBounds_ne (Ne.symm hj), Array.getElem?_push, Array.getElem?_push]
    simp [hj]
theorem wpList_store_R {ops : Array Oper} {rest : List Oper} {Q : Exit → Act → World → Prop} (T : RowTy P k e) (hgd : Region.wanted o (yielded ops a.tmps) = true) {t : TypeId} {arr : Array Value} (x y : Operand) (ho : o.op = .store k x y) (hx : a.eval x = .pointer (some ⟨b, 0, none⟩)) (hy : a.eval y = Rw.val r) (hb : w.heap[b]? = some (.cells arr t (0, 0))) (hs : arr.size = 24) (hr : Rw.ok r)
    (h : wpList P ops Q rest (a.put o.dst undef) (w.putObj b (.cells (Rw.cells r).toArray t (0, 0)))) : wpList P ops Q (o :: rest) a w :=
  wpList_of_skip hgd (exec_store_R T x y ho hx hy hb hs hr) h
/-- .. over one just made. -/
theorem wpList_store_new {ops : Array Oper} {rest : List Oper} {Q : Exit → Act → World → Prop} (T : RowTy P k e) (hgd : Region.wanted o (yielded ops a.tmps) = true) {t : TypeId} {arr : Array Value} (x y : Operand) (ho : o.op = .store k x y) (hx : a.eval x = .pointer (some ⟨w.heap.size, 0, none⟩)) (hy : a.eval y = Rw.val r) (hs : arr.size = 24) (hr : Rw.ok r)
    (h : wpList P ops Q rest (a.put o.dst undef) (w.alloc (.cells (Rw.cells r).toArray t))) : wpList P ops Q (o :: rest) a (w.alloc (.cells arr t)) := by
  refine wpList_store_R T hgd x y ho hx hy (heap_alloc_new w _) hs hr ?_
  rw [putObj_alloc]; exact h
end
@[simp] theorem Rw.val_cells (x : Rw) : (Rw.val x).cells = (Rw.cells x).toArray := rfl
end Go.Proofs.Ytcekphjcmippoaa
