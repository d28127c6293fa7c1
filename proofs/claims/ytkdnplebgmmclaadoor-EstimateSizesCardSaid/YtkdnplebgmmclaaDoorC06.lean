/- RowW, Rel0, Tup, Cnt, Sz, CntP, SzP -/
import Derived.Deep.MidRow
import Derived.Test.YtkdnplebgmmclaaDoorProg
import Derived.Lib.Hide
import Derived.WalkSpells
import Derived.WalkLawsBesides
import Derived.WalkKit
import Derived.Laws.Pointers
import Derived.Deep.QuietTactic
import Derived.BigQuiet
import Derived.Test.YtkdnplebgmmclaaDoorC05
/- Rows in memory: read and written whole; what may have turned. No program. -/
namespace Go.Proofs.YtkdnplebgmmclaaDoor
open Go.RowKit Go.WideMaps
set_option linter.unusedSimpArgs false
set_option linter.unusedVariables false

/-! ### What may have turned -/
/-- Nothing but the blocks of S has turned. -/
structure Only (S : Nat → Prop) (w w' : World) : Prop where
  os : w'.os = w.os
  tape : w'.tape = w.tape
  output : w'.output = w.output
  size : w.heap.size ≤ w'.heap.size
  block : ∀ k, k < w.heap.size → ¬ S k → w'.heap[k]? = w.heap[k]?
theorem Only.fut {S : Nat → Prop} {w w' : World} (h : Fut w w') : Only S w w' := ⟨h.os, h.tape, h.output, h.size, fun k hk _ => Below.block h k hk⟩
theorem Only.toFut {S : Nat → Prop} {w w' : World} (h : Only S w w') (hS : ∀ k, S k → w.heap.size ≤ k) : Fut w w' := ⟨h.os, h.tape, h.output, h.size, fun k hk => h.block k hk fun hs => by have := hS k hs; omega⟩
theorem Only.refl {S : Nat → Prop} (w : World) : Only S w w := Only.fut (Fut.refl w)
theorem Only.trans {S : Nat → Prop} {a b c : World} (h : Only S a b) (k : Only S b c) : Only S a c :=
  ⟨k.os.trans h.os, k.tape.trans h.tape, k.output.trans h.output, Nat.le_trans h.size k.size, fun i hi hn => (k.block i (Nat.lt_of_lt_of_le hi h.size) hn).trans (h.block i hi hn)⟩
theorem Only.mono {S S' : Nat → Prop} {w w' : World} (h : Only S w w') (hS : ∀ k, k < w.heap.size → S k → S' k) : Only S' w w' :=
  ⟨h.os, h.tape, h.output, h.size, fun k hk hn => h.block k hk fun hs => hn (hS k hk hs)⟩
/-- .. the second step turns what the first may turn, or what is new. -/
theorem Only.then {S S' : Nat → Prop} {a b c : World} (h : Only S a b) (k : Only S' b c) (hS : ∀ i, S' i → i < a.heap.size → S i) : Only S a c :=
  ⟨k.os.trans h.os, k.tape.trans h.tape, k.output.trans h.output, Nat.le_trans h.size k.size, fun i hi hn => (k.block i (Nat.lt_of_lt_of_le hi h.size) (fun hs => hn (hS i hs hi))).trans (h.block i hi hn)⟩
theorem Only.grown {S : Nat → Prop} {w w' : World} {row : Option Nat} (hg : w.grownBy w' row) (hS : ∀ k, row = some k → S k) : Only S w w' :=
  ⟨hg.os, hg.tape, hg.output, hg.size, fun k hk hn => hg.block k hk (fun e => hn (hS k e.symm))⟩
theorem Only.set {S : Nat → Prop} {w : World} (p : Addr) (v : Value) (hS : S p.block) : Only S w (w.setCell p v) :=
  ⟨rfl, rfl, rfl, by show _ ≤ (w.heap.modify _ _).size; rw [Array.size_modify]; exact Nat.le_refl _, fun k hk hn => Below.heap_setCell w p v k (fun e => hn (e ▸ hS))⟩
theorem Only.put {S : Nat → Prop} {w : World} (g : Nat) (o : Obj) (hS : S g) : Only S w (w.putObj g o) :=
  ⟨rfl, rfl, rfl, by simp [World.putObj], fun k hk hn => World.putObj_heap_other (fun e => hn (e ▸ hS))⟩
theorem Only.keeps {S : Nat → Prop} {w w' : World} (h : Only S w w') {k : Nat} {o : Obj} (ho : w.heap[k]? = some o) (hn : ¬ S k) : w'.heap[k]? = some o :=
  (h.block k (Array.getElem?_eq_some_iff.1 ho).1 hn).trans ho
theorem Only.cell {S : Nat → Prop} {w w' : World} (h : Only S w w') {p : Addr} {v : Value} (hc : w.cell? p = some v) (hn : ¬ S p.block) : w'.cell? p = some v :=
  (World.cell?_of_block (h.block p.block (lt_of_cell hc) hn)).trans hc

/-! ### Rows in memory -/
/-- The row x lies in block b from offset off on. -/
def RowAt (w : World) (b off : Nat) (x : Rw) : Prop := Rw.ok x ∧ ∀ j c, (Rw.cells x)[j]? = some c → w.cell? ⟨b, off + j, none⟩ = some c
theorem RowAt.fut {w w' : World} {b off : Nat} {x : Rw} (h : RowAt w b off x) (hf : Fut w w') : RowAt w' b off x := ⟨h.1, fun j c hj => hf.cell (h.2 j c hj)⟩
theorem RowAt.only {S : Nat → Prop} {w w' : World} {b off : Nat} {x : Rw} (h : RowAt w b off x) (ho : Only S w w') (hn : ¬ S b) : RowAt w' b off x := ⟨h.1, fun j c hj => ho.cell (h.2 j c hj) hn⟩
theorem RowAt.of_block {w : World} {b : Nat} {t : TypeId} {fr : Nat × Nat} {x : Rw} (hx : Rw.ok x) (h : w.heap[b]? = some (.cells (Rw.cells x).toArray t fr)) : RowAt w b 0 x := ⟨hx, fun j c hj => by
  rw [Nat.zero_add]; simp [World.cell?, h, hj]⟩
theorem RowAt.new (w : World) (t : TypeId) {x : Rw} (hx : Rw.ok x) : RowAt (w.alloc (.cells (Rw.cells x).toArray t)) w.heap.size 0 x := RowAt.of_block hx (heap_alloc_new w _)
/-- An element of a list of rows. -/
theorem rows_at {w : World} {A : Option Addr} {n cap M : Nat} {xs : List Rw} (h : SlRep 24 M RR w (.slice A n cap) xs) {k : Nat} (hk : k < xs.length) : ∃ b off, A = some ⟨b, off, none⟩ ∧ RowAt w b (off + k * 24) xs[k] := by
  obtain ⟨A1, cap1, hv, _, _, h3⟩ := h
  obtain ⟨b, off, cs, hA, hl, hc, hr⟩ := h3 k _ (List.getElem?_eq_getElem hk)
  injection hv with hv _ _
  refine ⟨b, off, hv.trans hA, hr.2, fun j c hj => ?_⟩
  rw [← hr.1] at hj
  rw [Nat.add_assoc]
  exact hc j c hj
theorem rows_ok {w : World} {v : Value} {M : Nat} {xs : List Rw} (h : SlRep 24 M RR w v xs) : ∀ x ∈ xs, Rw.ok x := by
  obtain ⟨A, cap, _, _, _, h3⟩ := h
  intro x hx
  obtain ⟨i, hi⟩ := List.getElem?_of_mem hx
  obtain ⟨_, _, _, _, _, _, hr⟩ := h3 i x hi
  exact hr.2

structure RowTy (P : Program) (k e : TypeId) : Prop where
  A : ArrKey P k e 24
  he : P.underlying e = some (.int .i32)
  hsz : ∃ m, P.types.size = m + 1
  hi : (P.info? k).map (·.size) = some 24
section
variable {P : Program} {k e : TypeId} {w : World} {b off : Nat} {r : Rw} {o : Oper} {a : Act}
theorem run_loadVar_R (T : RowTy P k e) (hr : RowAt w b off r) : (loadVar k ⟨b, off, none⟩).run P w = .ok (Rw.val r) w :=
  run_loadVar_mid w b off k (Rw.cells r) _ (fun j v hj => hr.2 j v hj) T.A.hu rfl (by rw [T.hi, Rw.cells_len hr.1])
theorem exec_load_R (T : RowTy P k e) (x : Operand) (ho : o.op = .load k x) (hx : a.eval x = .pointer (some ⟨b, off, none⟩)) (hr : RowAt w b off r) : (execOp a.eval o).run P w = .ok (.value (Rw.val r)) w := by
  unfold execOp
  simp only [ho, hx, Instr.loadAt, Instr.sureAddr, Sem.run_bind, Sem.run_pure, Result.andThen_ok, run_loadVar_R T hr]
theorem wpList_of_run {ops : Array Oper} {rest : List Oper} {Q : Exit → Act → World → Prop} {v : Value} {w' : World} (hgd : Region.wanted o (yielded ops a.tmps) = true)
    (hrun : (execOp a.eval o).run P w = .ok (.value v) w') (h : wpList P ops Q rest (a.put o.dst v) w') : wpList P ops Q (o :: rest) a w := by
  refine wpList_step fun K hK => ?_
  rw [if_pos hgd]
  unfold Oper.wp
  rw [hrun]
  exact hK _ _ h
theorem wpList_of_skip {ops : Array Oper} {rest : List Oper} {Q : Exit → Act → World → Prop} {w' : World} (hgd : Region.wanted o (yielded ops a.tmps) = true)
    (hrun : (execOp a.eval o).run P w = .ok .skip w') (h : wpList P ops Q rest (a.put o.dst undef) w') : wpList P ops Q (o :: rest) a w := by
  refine wpList_step fun K hK => ?_
  rw [if_pos hgd]
  unfold Oper.wp
  rw [hrun]
  exact hK _ _ h
theorem wpList_load_R {ops : Array Oper} {rest : List Oper} {Q : Exit → Act → World → Prop} (T : RowTy P k e) (hgd : Region.wanted o (yielded ops a.tmps) = true) (x : Operand) (ho : o.op = .load k x) (hx : a.eval x = .pointer (some ⟨b, off, none⟩)) (hr : RowAt w b off r)
    (h : wpList P ops Q rest (a.put o.dst (Rw.val r)) w) : wpList P ops Q (o :: rest) a w :=
  wpList_of_run hgd (exec_load_R T x ho hx hr) h

theorem setCells_put {t : TypeId} {fr : Nat × Nat} : ∀ (vs : List Value) (o : Nat) (w : World) (arr : Array Value), w.heap[b]? = some (.cells arr t fr) →
    ∃ arr', w.setCells b o vs = w.putObj b (.cells arr' t fr) ∧ arr'.size = arr.size ∧ ∀ j, arr'[j]? = if o ≤ j ∧ j < o + vs.length ∧ j < arr.size then vs[j - o]? else arr[j]?
  | [], o, w, arr, h => ⟨arr, by
      simp only [World.setCells, World.putObj]
      have hlt := (Array.getElem?_eq_some_iff.1 h)
      obtain ⟨hl, he⟩ := hlt
      have : w.heap.setIfInBounds b (.cells arr t fr) = w.heap := by
        refine Array.ext_getElem? fun i => ?_
        by_cases hi : i = b
        · subst hi; rw [h]; simp [hl]
        · rw [Array.getElem?_setIfInBounds_ne (Ne.symm hi)]
      rw [this], rfl, fun j => by rw [if_neg (by simp; omega)]⟩
  | v :: vs, o, w, arr, h => by
    have hs : (w.setCell ⟨b, o, none⟩ v).heap[b]? = some (.cells (arr.setIfInBounds o v) t fr) := by simp [World.setCell, Array.getElem?_modify, h]
    obtain ⟨arr', h1, h2, h3⟩ := setCells_put vs (o + 1) _ _ hs
    refine ⟨arr', ?_, by rw [h2]; simp, fun j => ?_⟩
    · simp only [World.setCells]
      rw [h1]
      simp only [World.putObj, World.setCell]
      congr 1
      refine Array.ext_getElem? fun i => ?_
      by_cases hi : i = b
      · subst hi
        have hl := (Array.getElem?_eq_some_iff.1 h).1
        simp [hl]
      · rw [Array.getElem?_setIfInBounds_ne (Ne.symm hi), Array.getElem?_setIfInBounds_ne (Ne.symm hi), Array.getElem?_modify, if_neg (Ne.symm hi)]
    · rw [h3]
      simp only [Array.size_setIfInBounds, List.length_cons]
      by_cases h4 : j = o
      · subst h4
        rw [if_neg (by omega)]
        by_cases h5 : j < arr.size
        · rw [if_pos (by omega)]; simp [h5]
        · rw [if_neg (by omega)]; simp [h5]
      · rw [Array.getElem?_setIfInBounds_ne (Ne.symm h4)]
        by_cases h5 : o + 1 ≤ j ∧ j < o + 1 + vs.length ∧ j < arr.size
        · rw [if_pos h5, if_pos (by omega), show j - o = (j - (o + 1)) + 1 by omega, List.getElem?_cons_succ]
        · rw [if_neg h5, if_neg (by omega)]
/-- A row is written over a block of 24 cells. -/
theorem exec_store_R (T : RowTy P k e) {t : TypeId} {arr : Array Value} (x y : Operand) (ho : o.op = .store k x y) (hx : a.eval x = .pointer (some ⟨b, 0, none⟩)) (hy : a.eval y = Rw.val r) (hb : w.heap[b]? = some (.cells arr t (0, 0))) (hs : arr.size = 24) (hr : Rw.ok r) :
    (execOp a.eval o).run P w = .ok .skip (w.putObj b (.cells (Rw.cells r).toArray t (0, 0))) := by
  have hl := Rw.cells_len hr
  have hsz : (Rw.cells r).toArray.size = 24 := by simpa using hl
  have h1 := run_storeVar_mid (P := P) w b 0 k (Rw.cells r).toArray (fun j hj => by
    rw [hsz] at hj
    refine ⟨?_, ?_⟩
    · rw [Nat.zero_add]; simp [World.cell?, hb]; try omega
    · simp [World.frozen?, hb]) (by rw [T.hi, hsz]) (all_oneCell_toArray fun v hv => RR.one w _ r ⟨rfl, hr⟩ v hv)
  obtain ⟨arr', h2, h3, h4⟩ := setCells_put (Rw.cells r) 0 w arr hb
  have e1 : arr' = (Rw.cells r).toArray := by
    refine Array.ext_getElem? fun j => ?_
    rw [h4]
    by_cases hj : j < 24
    · rw [if_pos (by omega)]; simp
    · rw [if_neg (by omega)]
      rw [Array.getElem?_eq_none (by omega), Array.getElem?_eq_none (by omega)]
  simp only at h1
  rw [h2, e1] at h1
  unfold execOp
  simp only [ho, hx, hy, Rw.val, Instr.storeAt, Instr.sureAddr, Sem.run_bind, Sem.run_pure, Result.andThen_ok, h1]
theorem putObj_alloc (w : World) (o o' : Obj) : (w.alloc o).putObj w.heap.size o' = w.alloc o' := by
  unfold World.putObj World.alloc
  congr 1
  refine Array.ext_getElem? fun j => ?_
  by_cases hj : j = w.heap.size
  · subst hj; simp
  · rw [Array.getElem?_setIfInBounds_ne (Ne.symm hj), Array.getElem?_push, Array.getElem?_push]
    simp [hj]
theorem wpList_store_R {ops : Array Oper} {rest : List Oper} {Q : Exit → Act → World → Prop} (T : RowTy P k e) (hgd : Region.wanted o (yielded ops a.tmps) = true) {t : TypeId} {arr : Array Value} (x y : Operand) (ho : o.op = .store k x y) (hx : a.eval x = .pointer (some ⟨b, 0, none⟩)) (hy : a.eval y = Rw.val r) (hb : w.heap[b]? = some (.cells arr t (0, 0))) (hs : arr.size = 24) (hr : Rw.ok r)
    (h : wpList P ops Q rest (a.put o.dst undef) (w.putObj b (.cells (Rw.cells r).toArray t (0, 0)))) : wpList P ops Q (o :: rest) a w :=
  wpList_of_skip hgd (exec_store_R T x y ho hx hy hb hs hr) h
/-- .. over one just made. -/
theorem wpList_store_new {ops : Array Oper} {rest : List Oper} {Q : Exit → Act → World → Prop} (T : RowTy P k e) (hgd : Region.wanted o (yielded ops a.tmps) = true) {t : TypeId} {arr : Array Value} (x y : Operand) (ho : o.op = .store k x y) (hx : a.eval x = .pointer (some ⟨w.heap.size, 0, none⟩)) (hy : a.eval y = Rw.val r) (hs : arr.size = 24) (hr : Rw.ok r)
    (h : wpList P ops Q rest (a.put o.dst undef) (w.alloc (.cells (Rw.cells r).toArray t))) : wpList P ops Q (o :: rest) a (w.alloc (.cells arr t)) := by
  refine wpList_store_R T hgd x y ho hx hy (heap_alloc_new w _) hs hr ?_
  rw [putObj_alloc]; exact h
end
@[simp] theorem Rw.val_cells (x : Rw) : (Rw.val x).cells = (Rw.cells x).toArray := rfl
end Go.Proofs.YtkdnplebgmmclaaDoor
/- relation.Relation: what it is in memory; New, Arity, Len, Gone, At, Has. -/
namespace Go.Proofs.YtkdnplebgmmclaaDoor
open Go.RowKit Go.WideMaps
set_option linter.unusedSimpArgs false
set_option linter.unusedVariables false

def zeroRow : Rw := [0, 0, 0, 0, 0, 0, 0, 0, 0, 0, 0, 0, 0, 0, 0, 0, 0, 0, 0, 0, 0, 0, 0, 0]
theorem zeroRow_ok : Rw.ok zeroRow := ⟨rfl, fun a ha => by
  have : a = 0 := by simpa [zeroRow] using ha
  subst this; decide⟩
/-- Where a row stands. -/
def idx (xs : List Rw) (x : Rw) : Option Int := if x ∈ xs then some ((xs.idxOf x : Nat) : Int) else none
theorem idx_isSome (xs : List Rw) (x : Rw) : (idx xs x).isSome = decide (x ∈ xs) := by
  unfold idx
  by_cases h : x ∈ xs <;> simp [h]
theorem idx_push {xs : List Rw} {x : Rw} (h : x ∉ xs) : (fun y => if y = x then some ((xs.length : Nat) : Int) else idx xs y) = idx (xs ++ [x]) := by
  funext y
  unfold idx
  by_cases hy : y = x
  · subst hy
    simp [h, List.idxOf_append]
  · rw [if_neg hy]
    by_cases hm : y ∈ xs
    · simp [hm, List.idxOf_append]
    · simp [hm, hy]

def pfoot (pb mb : Nat) (lv : Value) (k : Nat) : Prop := k = pb ∨ k = mb ∨ lv.ownBlock = some k
def foot (b pb mb : Nat) (lv : Value) (k : Nat) : Prop := k = b ∨ pfoot pb mb lv k
section
variable {B : Nat} {w w' : World} {b pb mb : Nat} {lv : Value} {ar gone : Nat} {xs : List Rw} {S : Nat → Prop}
theorem OwnL.only {α : Type} {sz : Nat} {e : TypeId} {R : World → List Value → α → Prop} {v : Value} {ys : List α} (h : OwnL sz B e R w v ys) (hR : ∀ cs x, R w cs x → R w' cs x) (hg : Only S w w') (hne : ∀ k, v.ownBlock = some k → ¬ S k) : OwnL sz B e R w' v ys := by
  obtain ⟨css, h1, h2, h3, h4⟩ := h
  refine ⟨css, h1, fun i cs x hi hx => ⟨(h2 i cs x hi hx).1, hR _ _ (h2 i cs x hi hx).2⟩, h3, ?_⟩
  rcases h4 with h4 | ⟨g, cap, cur, a1, a2, a3, a4⟩
  · exact .inl h4
  · exact .inr ⟨g, cap, cur, a1, a2, hg.keeps a3 (hne g (by rw [a1]; rfl)), a4⟩
theorem cell_at {g : Nat} {cs : Array Value} {t : TypeId} {fr : Nat × Nat} (h : w.heap[g]? = some (.cells cs t fr)) (j : Nat) (v : Value) (hj : cs[j]? = some v) : w.cell? ⟨g, j, none⟩ = some v := by
  simp [World.cell?, h, hj]
theorem free_at {g : Nat} {cs : Array Value} {t : TypeId} (h : w.heap[g]? = some (.cells cs t (0, 0))) (j : Nat) : w.frozen? ⟨g, j, none⟩ = false := by
  simp [World.frozen?, h]
end

/-! ### Is it there? Its arity, its rows, its number of those that are gone -/
end Go.Proofs.YtkdnplebgmmclaaDoor
/- Lists of tuples and lists of facts: as arguments hold them, as the call's own; append. No program. -/
namespace Go.Proofs.YtkdnplebgmmclaaDoor
open Go.RowKit
set_option linter.unusedSimpArgs false
set_option linter.unusedVariables false

/-! ### Within: tuples of any make -/
def RT (w : World) (cs : List Value) (xs : List V) : Prop := ∃ v, cs = [v] ∧ Vals w v xs
theorem RT.stays : Stays RT := fun _ _ _ _ hf ⟨v, h1, h2⟩ => ⟨v, h1, h2.fut RV.stays hf⟩
abbrev Tups : World → Value → List (List V) → Prop := SlRep 1 9223372036854775807 RT
abbrev TupsA : World → Value → List (List V) → Prop := SlRep 1 5864062014805 (SlR 3 4398046511104 RV)
theorem TupsA.tups {w : World} {v : Value} {ts : List (List V)} (h : TupsA w v ts) : Tups w v ts :=
  (SlRep.imp h fun cs x ⟨v, h1, h2⟩ => (⟨v, h1, ValsA.vals h2⟩ : RT w cs x)).more (by omega)
theorem Tups.at_ {w : World} {A : Option Addr} {n cap : Nat} {ts : List (List V)} (h : Tups w (.slice A n cap) ts) {k : Nat} (hk : k < ts.length) :
    ∃ b off A' cap', A = some ⟨b, off, none⟩ ∧ w.cell? ⟨b, off + k, none⟩ = some (.slice A' (ts[k]).length cap') ∧ (ts[k]).length ≤ cap' ∧ cap' ≤ 9223372036854775807 ∧ Vals w (.slice A' (ts[k]).length cap') ts[k] := by
  obtain ⟨A1, cap1, hv, _, _, h3⟩ := h
  obtain ⟨b, off, cs, hA, hl, hc, u, hr, hu⟩ := h3 k _ (List.getElem?_eq_getElem hk)
  injection hv with hv _ _
  subst hr
  obtain ⟨A', cap', rfl, h4, h5⟩ := SlRep.form hu
  exact ⟨b, off, A', cap', hv.trans hA, by have := hc 0 _ rfl; simpa using this, h4, h5, hu⟩
def RG (w : World) (cs : List Value) (x : Fc) : Prop := ∃ v, cs = [.string x.p, v] ∧ x.p.size ≤ 140737488351232 ∧ Vals w v x.a
theorem RG.stays : Stays RG := fun _ _ _ _ hf ⟨v, h1, h2, h3⟩ => ⟨v, h1, h2, h3.fut RV.stays hf⟩
abbrev FacsG : World → Value → List Fc → Prop := SlRep 2 9223372036854775807 RG
theorem Facs.g {w : World} {v : Value} {fs : List Fc} (h : Facs w v fs) : FacsG w v fs :=
  (SlRep.imp h fun cs x ⟨v, h1, h2, h3⟩ => (⟨v, h1, h2, ValsA.vals h3⟩ : RG w cs x)).more (by omega)
theorem FacsG.at_ {w : World} {A : Option Addr} {n cap : Nat} {fs : List Fc} (h : FacsG w (.slice A n cap) fs) {k : Nat} (hk : k < fs.length) :
    ∃ b off A' cap', A = some ⟨b, off, none⟩ ∧ (fs[k]).p.size ≤ 140737488351232 ∧ w.cell? ⟨b, off + k * 2, none⟩ = some (.string (fs[k]).p) ∧ w.cell? ⟨b, off + k * 2 + 1, none⟩ = some (.slice A' (fs[k]).a.length cap') ∧ (fs[k]).a.length ≤ cap' ∧ cap' ≤ 9223372036854775807 ∧ Vals w (.slice A' (fs[k]).a.length cap') (fs[k]).a := by
  obtain ⟨A1, cap1, hv, _, _, h3⟩ := h
  obtain ⟨b, off, cs, hA, hl, hc, u, hr, hp, hu⟩ := h3 k _ (List.getElem?_eq_getElem hk)
  injection hv with hv _ _
  subst hr
  obtain ⟨A', cap', rfl, h4, h5⟩ := SlRep.form hu
  exact ⟨b, off, A', cap', hv.trans hA, hp, hc 0 _ rfl, hc 1 _ rfl, h4, h5, hu⟩
theorem FacsG.size {w : World} {v : Value} {fs : List Fc} (h : FacsG w v fs) : ∀ f ∈ fs, f.p.size ≤ 140737488351232 := by
  obtain ⟨A, cap, _, _, _, h3⟩ := h
  intro f hf
  obtain ⟨i, hi⟩ := List.getElem?_of_mem hf
  obtain ⟨_, _, _, _, _, _, _, _, hp, _⟩ := h3 i f hi
  exact hp

/-! ### Lists of the call's own, whose elements lie in memory of the call's own -/
section
variable {α : Type} {sz B M : Nat} {e ei : TypeId} {R R' : World → List Value → α → Prop} {w w' : World} {v u : Value} {xs ys : List α}
theorem OwnL.typed (h : OwnL sz B e R w v xs) : ∀ k, v.ownBlock = some k → ∃ arr, w.heap[k]? = some (.cells arr e (0, 0)) := by
  intro k hk
  obtain ⟨css, h1, h2, h3, h4⟩ := h
  rcases h4 with ⟨rfl, _⟩ | ⟨g, cap, cur, rfl, a2, a3, _⟩
  · cases hk
  · simp only [Value.ownBlock, Option.some.injEq] at hk
    subst hk
    exact ⟨cur, a3⟩
theorem OwnL.imp (h : OwnL sz B e R w v xs) (hR : ∀ cs x, R w cs x → R' w cs x) : OwnL sz B e R' w v xs := by
  obtain ⟨css, h1, h2, h3⟩ := h
  exact ⟨css, h1, fun i cs x hi hx => ⟨(h2 i cs x hi hx).1, hR _ _ (h2 i cs x hi hx).2⟩, h3⟩
theorem OwnL.base {B' : Nat} (h : OwnL sz B e R w v xs) (hB : B' ≤ B) : OwnL sz B' e R w v xs := by
  obtain ⟨css, h1, h2, h3, h4⟩ := h
  refine ⟨css, h1, h2, h3, ?_⟩
  rcases h4 with h4 | ⟨g, cap, cur, a1, a2, a3⟩
  · exact .inl h4
  · exact .inr ⟨g, cap, cur, a1, Nat.le_trans hB a2, a3⟩
/-- What a write into a row of another type does not turn. -/
def Keeps (e : TypeId) (R : World → List Value → α → Prop) : Prop :=
  ∀ (w w' : World) (row : Option Nat) (cs : List Value) (x : α), R w cs x → w.grownBy w' row → (∀ k, row = some k → ∃ arr, w.heap[k]? = some (.cells arr e (0, 0))) → R w' cs x
theorem OwnL.kept {row : Option Nat} (h : OwnL sz B ei R w v xs) (hR : ∀ cs x, R w cs x → R w' cs x) (hg : w.grownBy w' row) (ht : ∀ k, row = some k → ∃ arr, w.heap[k]? = some (.cells arr e (0, 0))) (hne : ei ≠ e) : OwnL sz B ei R w' v xs := by
  have hty := h.typed
  obtain ⟨css, h1, h2, h3⟩ := h
  refine ⟨css, h1, fun i cs x hi hx => ⟨(h2 i cs x hi hx).1, hR _ _ (h2 i cs x hi hx).2⟩, h3.kept hg ?_⟩
  cases hv : v.ownBlock with
  | none => exact .inl rfl
  | some k =>
    right
    intro hr
    obtain ⟨arr, h5⟩ := hty k hv
    obtain ⟨arr', h6⟩ := ht k hr.symm
    rw [h5] at h6
    injection h6 with h6
    injection h6 with _ h7
    exact hne h7
/-- APPEND, elements that Keep. -/
theorem wpList_append_L {P : Program} {ops : Array Oper} {rest : List Oper} {o : Oper} {a : Act} {Q : Exit → Act → World → Prop} (hgd : Region.wanted o (yielded ops a.tmps) = true) (s x : Operand) (t : TypeId)
    (ho : o.op = .call { callee := .builtin .append, args := #[s, x], argTypes := #[t, t] }) (ht : P.underlying t = some (.slice e)) (z : Value) (bytes : Nat)
    (hinfo : (P.info? e).map (fun i => (i.zero, i.size, i.bytes)) = some (some z, sz, bytes)) (hzs : z.cells.size = sz) (hsz : 0 < sz)
    (hR1 : ∀ w cs x, R w cs x → ∀ u ∈ cs, u.oneCell' = true) (hRk : Keeps e R)
    (hs : a.eval s = v) (hx : a.eval x = u) (hown : OwnL sz B e R w v xs) (hu : SlRep sz M R w u ys) (h63 : xs.length + ys.length ≤ maxLen) (hbytes : (xs.length + ys.length) * bytes ≤ 140737488355328) (hbase : B ≤ w.heap.size)
    (h : ∀ v' w', OwnL sz B e R w' v' (xs ++ ys) → w.grownBy w' v.ownBlock → wpList P ops Q rest (a.put o.dst v') w') : wpList P ops Q (o :: rest) a w := by
  obtain ⟨i, hi, hz, hs', hb⟩ := info_parts hinfo
  obtain ⟨v', w', hr, h2, h3⟩ := run_append_list t o.type i z bytes ht hi hz hs' hb hzs hsz hR1 (fun w' cs x hr hg => hRk w w' _ cs x hr hg hown.typed) hown hu h63 hbytes hbase
  refine wpList_step fun K hK => ?_
  rw [if_pos hgd]
  unfold Oper.wp
  have hrun : (execOp a.eval o).run P w = .ok (.value v') w' := by
    unfold execOp
    simp only [ho, resolve, invoke, builtin, Sem.run_bind, Sem.run_pure, Result.andThen_ok, List.map_toArray, List.map_cons, List.map_nil, hs, hx, hr]
  rw [hrun]
  exact hK _ _ (h v' w' h2 h3)
end

/-- Tuples, facts in memory of the call's own: B: from this block on. -/
def RTo (B : Nat) (ev : TypeId) (w : World) (cs : List Value) (xs : List V) : Prop := ∃ v, cs = [v] ∧ OwnV B ev w v xs
def RGo (B : Nat) (ev : TypeId) (w : World) (cs : List Value) (x : Fc) : Prop := ∃ v, cs = [.string x.p, v] ∧ x.p.size ≤ 140737488351232 ∧ OwnV B ev w v x.a
section
variable {B M : Nat} {e ev : TypeId} {w w' : World} {v u : Value}
theorem RTo.stays : Stays (RTo B ev) := fun _ _ _ _ hf ⟨v, h1, h2⟩ => ⟨v, h1, h2.fut RV.stays hf⟩
theorem RGo.stays : Stays (RGo B ev) := fun _ _ _ _ hf ⟨v, h1, h2, h3⟩ => ⟨v, h1, h2, h3.fut RV.stays hf⟩
theorem RTo.keeps (hne : ev ≠ e) : Keeps e (RTo B ev) := fun w w' row cs x ⟨v, h1, h2⟩ hg ht => ⟨v, h1, h2.kept (fun _ _ h => h) hg ht hne⟩
theorem RGo.keeps (hne : ev ≠ e) : Keeps e (RGo B ev) := fun w w' row cs x ⟨v, h1, h2, h3⟩ hg ht => ⟨v, h1, h2, h3.kept (fun _ _ h => h) hg ht hne⟩
theorem slice_one {A : Option Addr} {n c : Nat} : (Value.slice A n c).oneCell' = true := rfl
theorem RTo.one : ∀ (w : World) cs x, RTo B ev w cs x → ∀ u ∈ cs, u.oneCell' = true := fun w cs x ⟨v, h1, h2⟩ u hu => by
  obtain ⟨A, cap, rfl, _⟩ := h2.vals.form
  subst h1
  simp only [List.mem_singleton] at hu
  subst hu; rfl
theorem RGo.one : ∀ (w : World) cs x, RGo B ev w cs x → ∀ u ∈ cs, u.oneCell' = true := fun w cs x ⟨v, h1, _, h2⟩ u hu => by
  obtain ⟨A, cap, rfl, _⟩ := h2.vals.form
  subst h1
  simp only [List.mem_cons, List.not_mem_nil, or_false] at hu
  rcases hu with rfl | rfl <;> rfl
theorem OwnT.tups {ts : List (List V)} (h : OwnL 1 B e (RTo B ev) w v ts) : Tups w v ts :=
  (h.rep.imp fun cs x ⟨v, h1, h2⟩ => (⟨v, h1, h2.vals⟩ : RT w cs x)).more (by unfold maxLen; omega)
theorem OwnG.facs {fs : List Fc} (h : OwnL 2 B e (RGo B ev) w v fs) : FacsG w v fs :=
  (h.rep.imp fun cs x ⟨v, h1, h2, h3⟩ => (⟨v, h1, h2, h3.vals⟩ : RG w cs x)).more (by unfold maxLen; omega)
/-- What was there is told of as it was, whatever is written into rows of the call's own. -/
theorem const_keeps {α : Type} {R : World → List Value → α → Prop} (w0 : World) : Keeps e (fun _ => R w0) := fun _ _ _ _ _ h _ _ => h
theorem RT.one : ∀ (w : World) cs x, RT w cs x → ∀ u ∈ cs, u.oneCell' = true := fun w cs x ⟨v, h1, h2⟩ u hu => by
  obtain ⟨A, cap, rfl, _⟩ := h2.form
  subst h1
  simp only [List.mem_singleton] at hu
  subst hu; rfl
theorem RG.one : ∀ (w : World) cs x, RG w cs x → ∀ u ∈ cs, u.oneCell' = true := fun w cs x ⟨v, h1, _, h2⟩ u hu => by
  obtain ⟨A, cap, rfl, _⟩ := h2.form
  subst h1
  simp only [List.mem_cons, List.not_mem_nil, or_false] at hu
  rcases hu with rfl | rfl <;> rfl
end

def partsT : List (List V) → Nat
  | [] => 0
  | t :: r => 1 + t.length + partsT r
theorem partsT_take (ts : List (List V)) (k : Nat) (hk : k < ts.length) : partsT (ts.take (k + 1)) = partsT (ts.take k) + (1 + (ts[k]).length) := by
  induction ts generalizing k with
  | nil => simp at hk
  | cons f r ih =>
    cases k with
    | zero => simp [partsT]
    | succ k => simp only [List.take_succ_cons, partsT, List.getElem_cons_succ]; rw [ih k (by simpa using hk)]; omega
theorem partsT_le (ts : List (List V)) (k : Nat) : partsT (ts.take k) ≤ partsT ts := by
  induction ts generalizing k with
  | nil => simp
  | cons f r ih =>
    cases k with
    | zero => simp [partsT]
    | succ k => simp only [List.take_succ_cons, partsT]; have := ih k; omega
theorem partsT_len (ts : List (List V)) : ts.length ≤ partsT ts := by
  induction ts with
  | nil => simp
  | cons f r ih => simp only [List.length_cons, partsT]; omega
theorem partsT_mem {ts : List (List V)} {t : List V} (h : t ∈ ts) : t.length ≤ partsT ts := by
  induction ts with
  | nil => simp at h
  | cons f r ih =>
    simp only [partsT]
    rcases List.mem_cons.1 h with rfl | h
    · omega
    · have := ih h; omega
end Go.Proofs.YtkdnplebgmmclaaDoor
/- What a predicate's facts are counted in: the number, and of each column the map of its values. -/
namespace Go.Proofs.YtkdnplebgmmclaaDoor
open Go.RowKit Go.WideMaps Go.Maps
set_option linter.unusedSimpArgs false
set_option linter.unusedVariables false

abbrev tCn : TypeId := 48
abbrev tMp : TypeId := 53
def unit0 : Value := .agg #[]
/-- A list of maps. -/
def RMp (_ : World) (cs : List Value) (b : Nat) : Prop := cs = [.map (some b)]
theorem RMp.stays : Stays RMp := fun _ _ _ _ _ h => h
theorem RMp.same : ∀ (w w' : World) cs x, RMp w cs x → RMp w' cs x := fun _ _ _ _ h => h
theorem RMp.one : ∀ (w : World) cs x, RMp w cs x → ∀ u ∈ cs, u.oneCell' = true := fun w cs x h u hu => by
  obtain rfl : cs = _ := h
  simp only [List.mem_singleton] at hu
  subst hu; rfl
/-- A column: its map's block, its values in the order in which they came. -/
abbrev Col : Type := Nat × List V
def colE (l : List V) : List (V × Value) := l.map fun v => (v, unit0)
structure EntI (B : Nat) (w : World) (blk : Nat) (rows : Int) (lv : Value) (cols : List Col) : Prop where
  cell : w.heap[blk]? = some (.cells #[.int .i64 rows, lv] tCn (0, 0))
  list : OwnL 1 B tMp RMp w lv (cols.map (·.1))
  maps : ∀ (i : Nat) (c : Col), cols[i]? = some c → MapE V.val w c.1 (colE c.2) ∧ ∀ v ∈ c.2, v.ok
  nodup : (cols.map (·.1)).Nodup
  low : B ≤ blk ∧ ∀ c ∈ cols, B ≤ c.1
def efoot (blk : Nat) (lv : Value) (cols : List Col) (k : Nat) : Prop := k = blk ∨ lv.ownBlock = some k ∨ ∃ c ∈ cols, c.1 = k
section
variable {B : Nat} {w w' : World} {blk : Nat} {rows : Int} {lv : Value} {cols : List Col} {S : Nat → Prop}
theorem map_ne {α : Type} {kv : α → Value} {b k : Nat} {l : List (α × Value)} {arr : Array Value} {t : TypeId} {fr : Nat × Nat} (h : MapE kv w b l) (hk : w.heap[k]? = some (.cells arr t fr)) : b ≠ k := fun e => by
  obtain ⟨es, c, h1, _⟩ := h
  rw [e, hk] at h1
  cases h1
theorem EntI.lt (h : EntI B w blk rows lv cols) : ∀ k, efoot blk lv cols k → B ≤ k ∧ k < w.heap.size := by
  rintro k (rfl | hk | ⟨c, hc, rfl⟩)
  · exact ⟨h.low.1, (Array.getElem?_eq_some_iff.1 h.cell).1⟩
  · exact h.list.block k hk
  · obtain ⟨i, hi⟩ := List.mem_iff_getElem?.1 hc
    exact ⟨h.low.2 c hc, (h.maps i c hi).1.lt⟩
theorem EntI.only (h : EntI B w blk rows lv cols) (hg : Only S w w') (hne : ∀ k, efoot blk lv cols k → ¬ S k) : EntI B w' blk rows lv cols where
  cell := hg.keeps h.cell (hne _ (.inl rfl))
  list := h.list.only (fun _ _ h => h) hg fun k hk => hne k (.inr (.inl hk))
  maps i c hi := ⟨(h.maps i c hi).1.kept (hg.block c.1 (h.maps i c hi).1.lt (hne _ (.inr (.inr ⟨c, List.mem_of_getElem? hi, rfl⟩)))), (h.maps i c hi).2⟩
  nodup := h.nodup
  low := h.low
theorem EntI.fut (h : EntI B w blk rows lv cols) (hf : Fut w w') : EntI B w' blk rows lv cols := h.only (S := fun _ => False) (Only.fut hf) fun _ _ h => h
/-- The list's block is none of the others. -/
theorem EntI.sep (h : EntI B w blk rows lv cols) : (∀ k, lv.ownBlock = some k → k ≠ blk ∧ ∀ c ∈ cols, c.1 ≠ k) ∧ ∀ c ∈ cols, c.1 ≠ blk := by
  refine ⟨fun k hk => ⟨fun e => ?_, fun c hc => ?_⟩, fun c hc => ?_⟩
  · obtain ⟨arr, h1⟩ := h.list.typed k hk
    rw [e, h.cell] at h1
    injection h1 with h1
    injection h1 with _ h2
    exact absurd h2 (by decide)
  · obtain ⟨i, hi⟩ := List.mem_iff_getElem?.1 hc
    obtain ⟨arr, h1⟩ := h.list.typed k hk
    exact map_ne (h.maps i c hi).1 h1
  · obtain ⟨i, hi⟩ := List.mem_iff_getElem?.1 hc
    exact map_ne (h.maps i c hi).1 h.cell
/-- The number written over. -/
theorem EntI.row (h : EntI B w blk rows lv cols) (r : Int) : EntI B (w.setCell ⟨blk, 0, none⟩ (.int .i64 r)) blk r lv cols := by
  have O : Only (fun k => k = blk) w (w.setCell ⟨blk, 0, none⟩ (.int .i64 r)) := Only.set _ _ rfl
  have hs := h.sep
  exact { cell := by simp [World.setCell, Array.getElem?_modify, h.cell]
          list := h.list.only (fun _ _ h => h) O fun k hk => (hs.1 k hk).1
          maps := fun i c hi => ⟨(h.maps i c hi).1.kept (O.block c.1 (h.maps i c hi).1.lt (hs.2 c (List.mem_of_getElem? hi))), (h.maps i c hi).2⟩
          nodup := h.nodup
          low := h.low }
/-- The list written over: w1 is the world in which the longer list was made. -/
theorem EntI.cols' {lv' : Value} {cols' : List Col} {rows : Int} (hb : w.heap[blk]? = some (.cells #[.int .i64 rows, lv] tCn (0, 0))) (hl : OwnL 1 B tMp RMp w lv' (cols'.map (·.1))) (hm : ∀ (i : Nat) (c : Col), cols'[i]? = some c → MapE V.val w c.1 (colE c.2) ∧ ∀ v ∈ c.2, v.ok) (hn : (cols'.map (·.1)).Nodup) (hlow : B ≤ blk ∧ ∀ c ∈ cols', B ≤ c.1) :
    EntI B (w.setCell ⟨blk, 1, none⟩ lv') blk rows lv' cols' := by
  have O : Only (fun k => k = blk) w (w.setCell ⟨blk, 1, none⟩ lv') := Only.set _ _ rfl
  refine ⟨by simp [World.setCell, Array.getElem?_modify, hb], hl.only (fun _ _ h => h) O fun k hk e => ?_, fun i c hi => ⟨(hm i c hi).1.kept (O.block c.1 (hm i c hi).1.lt (map_ne (hm i c hi).1 hb)), (hm i c hi).2⟩, hn, hlow⟩
  obtain ⟨arr, h1⟩ := hl.typed k hk
  rw [e, hb] at h1
  injection h1 with h1
  injection h1 with _ h2
  exact absurd h2 (by decide)
/-- A column's map has turned. -/
theorem EntI.put {i : Nat} {c : Col} {l : List V} (h : EntI B w blk rows lv cols) (hi : cols[i]? = some c) (hg : w.grownBy w' (some c.1)) (hm : MapE V.val w' c.1 (colE l)) (hok : ∀ v ∈ l, v.ok) : EntI B w' blk rows lv (cols.set i (c.1, l)) := by
  have O : Only (fun k => k = c.1) w w' := Only.grown hg fun k hk => by injection hk with hk; exact hk.symm
  have hs := h.sep
  have hc := List.mem_of_getElem? hi
  have hil := (List.getElem?_eq_some_iff.1 hi)
  have he : (cols.set i (c.1, l)).map (·.1) = cols.map (·.1) := by
    rw [List.map_set]
    refine List.ext_getElem? fun j => ?_
    rw [List.getElem?_set]
    split
    · rename_i hij
      subst hij
      split
      · rw [List.getElem?_map, hi]; rfl
      · rename_i h2; rw [List.length_map] at h2; exact absurd hil.1 h2
    · rfl
  refine ⟨O.keeps h.cell (fun e => hs.2 c hc e.symm), by rw [he]; exact h.list.only (fun _ _ h => h) O fun k hk e => (hs.1 k hk).2 c hc e.symm, fun j d hj => ?_, by rw [he]; exact h.nodup, h.low.1, fun d hd => ?_⟩
  · rw [List.getElem?_set] at hj
    split at hj
    · split at hj
      · injection hj with hj
        subst hj
        exact ⟨hm, hok⟩
      · cases hj
    · rename_i hij
      refine ⟨(h.maps j d hj).1.kept (O.block d.1 (h.maps j d hj).1.lt fun e => hij ?_), (h.maps j d hj).2⟩
      have hjl := List.getElem?_eq_some_iff.1 hj
      refine (List.getElem_inj (xs := cols.map (·.1)) (h₀ := by rw [List.length_map]; exact hil.1) (h₁ := by rw [List.length_map]; exact hjl.1) h.nodup).1 ?_
      rw [List.getElem_map, List.getElem_map, hil.2, hjl.2]
      exact e.symm
  · rcases List.mem_or_eq_of_mem_set hd with hd | rfl
    · exact h.low.2 d hd
    · exact h.low.2 c hc
end
end Go.Proofs.YtkdnplebgmmclaaDoor
/- The map of what is counted, predicate by predicate. -/
namespace Go.Proofs.YtkdnplebgmmclaaDoor
open Go.RowKit Go.WideMaps Go.Maps
set_option linter.unusedSimpArgs false
set_option linter.unusedVariables false

structure En where
  p : ByteArray
  blk : Nat
  rows : Nat
  lv : Value
  cols : List Col
def En.foot (e : En) (k : Nat) : Prop := efoot e.blk e.lv e.cols k
def En.entry (e : En) : ByteArray × Value := (e.p, .pointer (some ⟨e.blk, 0, none⟩))
structure SzI (B : Nat) (w : World) (mb : Nat) (es : List En) : Prop where
  map : MapE strV w mb (es.map En.entry)
  each : ∀ (i : Nat) (e : En), es[i]? = some e → EntI B w e.blk e.rows e.lv e.cols ∧ e.p.size ≤ maxLen
  apart : ∀ (i j : Nat) (e e' : En), es[i]? = some e → es[j]? = some e' → i ≠ j → ∀ k, e.foot k → ¬ e'.foot k
  off : ∀ (i : Nat) (e : En), es[i]? = some e → ¬ e.foot mb
section
variable {B mb : Nat} {w w' : World} {es : List En} {S : Nat → Prop}
theorem SzI.ok (h : SzI B w mb es) : ∀ q ∈ es.map En.entry, q.1.size ≤ maxLen := fun q hq => by
  obtain ⟨e, he, rfl⟩ := List.mem_map.1 hq
  obtain ⟨i, hi⟩ := List.mem_iff_getElem?.1 he
  exact (h.each i e hi).2
theorem SzI.only (h : SzI B w mb es) (hg : Only S w w') (hm : ¬ S mb) (hne : ∀ (i : Nat) (e : En), es[i]? = some e → ∀ k, e.foot k → ¬ S k) : SzI B w' mb es where
  map := h.map.kept (hg.block mb h.map.lt hm)
  each i e hi := ⟨(h.each i e hi).1.only hg (hne i e hi), (h.each i e hi).2⟩
  apart := h.apart
  off := h.off
theorem SzI.fut (h : SzI B w mb es) (hf : Fut w w') : SzI B w' mb es := h.only (S := fun _ => False) (Only.fut hf) (fun h => h) fun _ _ _ _ _ h => h
theorem SzI.new (w : World) : SzI B (w.alloc (.map #[] 0)) w.heap.size [] :=
  ⟨MapE.new w, fun i e h => by simp at h, fun i j e e' h => by simp at h, fun i e h => by simp at h⟩
theorem set_at {α : Type} {l : List α} {j i : Nat} {x y : α} (h : (l.set j x)[i]? = some y) : (i = j ∧ y = x) ∨ (i ≠ j ∧ l[i]? = some y) := by
  rw [List.getElem?_set] at h
  split at h
  · rename_i hij
    split at h
    · injection h with h; exact .inl ⟨hij.symm, h.symm⟩
    · cases h
  · rename_i hij
    exact .inr ⟨fun e => hij e.symm, h⟩
/-- One entry has turned. -/
theorem SzI.upd {j : Nat} {e e' : En} (h : SzI B w mb es) (hj : es[j]? = some e) (hg : Only S w w') (hS : ∀ k, S k → e.foot k ∨ w.heap.size ≤ k) (hE : EntI B w' e'.blk e'.rows e'.lv e'.cols) (hp : e'.p = e.p) (hb : e'.blk = e.blk) (hf : ∀ k, e'.foot k → e.foot k ∨ w.heap.size ≤ k) : SzI B w' mb (es.set j e') := by
  have he : (es.set j e').map En.entry = es.map En.entry := by
    rw [List.map_set]
    refine List.ext_getElem? fun i => ?_
    rw [List.getElem?_set]
    split
    · rename_i hij
      subst hij
      rw [List.getElem?_map, hj, List.length_map]
      rw [if_pos (List.getElem?_eq_some_iff.1 hj).1]
      simp [En.entry, hp, hb]
    · rfl
  have hml := h.map.lt
  have hoff := h.off j e hj
  have hne : ∀ (i : Nat) (x : En), i ≠ j → es[i]? = some x → ∀ k, x.foot k → ¬ S k := fun i x hij hi k hk hs => by
    rcases hS k hs with h1 | h1
    · exact h.apart i j x e hi hj hij k hk h1
    · have := ((h.each i x hi).1.lt k hk).2; omega
  refine ⟨by rw [he]; exact h.map.kept (hg.block mb hml fun hs => (hS mb hs).elim hoff fun h1 => by omega), fun i x hi => ?_, fun i i' x x' hi hi' hii k hk hk' => ?_, fun i x hi hk => ?_⟩
  · rcases set_at hi with ⟨rfl, rfl⟩ | ⟨hij, hi⟩
    · exact ⟨hE, by rw [hp]; exact (h.each _ e hj).2⟩
    · exact ⟨(h.each i x hi).1.only hg (hne i x hij hi), (h.each i x hi).2⟩
  · rcases set_at hi with ⟨rfl, rfl⟩ | ⟨hij, h2⟩
    · rcases set_at hi' with ⟨rfl, rfl⟩ | ⟨hij', h3⟩
      · exact hii rfl
      · rcases hf k hk with h1 | h1
        · exact h.apart _ i' e x' hj h3 hii k h1 hk'
        · have := ((h.each i' x' h3).1.lt k hk').2; omega
    · rcases set_at hi' with ⟨rfl, rfl⟩ | ⟨hij', h3⟩
      · rcases hf k hk' with h1 | h1
        · exact h.apart i _ x e h2 hj hii k hk h1
        · have := ((h.each i x h2).1.lt k hk).2; omega
      · exact h.apart i i' x x' h2 h3 hii k hk hk'
  · rcases set_at hi with ⟨rfl, rfl⟩ | ⟨hij, hi⟩
    · rcases hf mb hk with h1 | h1
      · exact hoff h1
      · omega
    · exact h.off i x hi hk
/-- An entry more: its block has just been made, the map has taken it in. -/
theorem SzI.snoc {p : ByteArray} {nb : Nat} (h : SzI B w mb es) (hp : p.size ≤ maxLen) (hnb : w.heap[nb]? = some (.cells #[.int .i64 0, .slice none 0 0] tCn (0, 0))) (hB : B ≤ nb) (hfresh : ∀ (i : Nat) (e : En), es[i]? = some e → ¬ e.foot nb)
    (hg : w.grownBy w' (some mb)) (hm : MapE strV w' mb (es.map En.entry ++ [(p, .pointer (some ⟨nb, 0, none⟩))])) : SzI B w' mb (es ++ [⟨p, nb, 0, .slice none 0 0, []⟩]) := by
  have O : Only (fun k => k = mb) w w' := Only.grown hg fun k hk => by injection hk with hk; exact hk.symm
  have hne : nb ≠ mb := fun e => map_ne h.map hnb e.symm
  have hfoot : ∀ k, (⟨p, nb, 0, .slice none 0 0, []⟩ : En).foot k → k = nb := fun k hk => by
    rcases hk with hk | hk | ⟨c, hc, _⟩
    · exact hk
    · cases hk
    · cases hc
  have at' : ∀ (i : Nat) (x : En), (es ++ [⟨p, nb, 0, .slice none 0 0, []⟩])[i]? = some x → (i < es.length ∧ es[i]? = some x) ∨ (i = es.length ∧ x = ⟨p, nb, 0, .slice none 0 0, []⟩) := fun i x hi => by
    by_cases hl : i < es.length
    · rw [List.getElem?_append_left hl] at hi; exact .inl ⟨hl, hi⟩
    · rw [List.getElem?_append_right (by omega)] at hi
      have h1 := (List.getElem?_eq_some_iff.1 hi).1
      have e : i = es.length := by simp at h1; omega
      subst e
      simp at hi
      exact .inr ⟨rfl, hi.symm⟩
  refine ⟨by rw [List.map_append]; exact hm, fun i x hi => ?_, fun i j x y hi hj hij k hk hk' => ?_, fun i x hi hk => ?_⟩
  · rcases at' i x hi with ⟨_, h1⟩ | ⟨_, rfl⟩
    · exact ⟨(h.each i x h1).1.only O fun k hk e => h.off i x h1 (e ▸ hk), (h.each i x h1).2⟩
    · exact ⟨⟨O.keeps hnb hne, OwnL.nil, fun i c hi => by simp at hi, List.nodup_nil, hB, fun c hc => by cases hc⟩, hp⟩
  · rcases at' i x hi with ⟨h0, h1⟩ | ⟨h0, rfl⟩
    · rcases at' j y hj with ⟨h2, h3⟩ | ⟨h2, rfl⟩
      · exact h.apart i j x y h1 h3 hij k hk hk'
      · exact hfresh i x h1 (hfoot k hk' ▸ hk)
    · rcases at' j y hj with ⟨h2, h3⟩ | ⟨h2, rfl⟩
      · exact hfresh j y h3 (hfoot k hk ▸ hk')
      · omega
  · rcases at' i x hi with ⟨_, h1⟩ | ⟨_, rfl⟩
    · exact h.off i x h1 hk
    · exact hne (hfoot mb hk).symm
end
end Go.Proofs.YtkdnplebgmmclaaDoor
/- Counting a column's unlike values, plainly. No program. -/
namespace Go.Proofs.YtkdnplebgmmclaaDoor
open Go.RowKit
set_option linter.unusedSimpArgs false
set_option linter.unusedVariables false

/-- Two lists without repeats that have the same members are as long. -/
theorem nodup_same_len {α : Type} {a b : List α} (ha : a.Nodup) (hb : b.Nodup) (h : ∀ x, x ∈ a ↔ x ∈ b) : a.length = b.length := by
  classical
  exact ((List.perm_ext_iff_of_nodup ha hb).2 h).length_eq
section
variable {α : Type} [DecidableEq α]
/-- A value more, if it isn't there. -/
def addV (l : List α) (v : α) : List α := if v ∈ l then l else l ++ [v]
def ddV (l : List α) : List α := l.foldl addV []
theorem mem_addV {l : List α} {v x : α} : x ∈ addV l v ↔ x ∈ l ∨ x = v := by
  unfold addV; split
  · rename_i h
    exact ⟨.inl, fun h' => h'.elim id fun e => e ▸ h⟩
  · simp
theorem nodup_addV {l : List α} {v : α} (h : l.Nodup) : (addV l v).Nodup := by
  unfold addV; split
  · exact h
  · rename_i hv
    rw [List.nodup_append]
    exact ⟨h, by simp, fun a ha b hb => by simp at hb; subst hb; exact fun e => hv (e ▸ ha)⟩
theorem fold_addV : ∀ (l a : List α), a.Nodup → (l.foldl addV a).Nodup ∧ ∀ x, x ∈ l.foldl addV a ↔ x ∈ a ∨ x ∈ l
  | [], a, h => ⟨h, by simp⟩
  | v :: l, a, h => by
    obtain ⟨h1, h2⟩ := fold_addV l (addV a v) (nodup_addV h)
    exact ⟨h1, fun x => by rw [List.foldl_cons, h2, mem_addV, List.mem_cons, or_assoc]⟩
theorem ddV_nodup (l : List α) : (ddV l).Nodup := (fold_addV l [] List.nodup_nil).1
theorem mem_ddV {l : List α} {x : α} : x ∈ ddV l ↔ x ∈ l := by rw [ddV, (fold_addV l [] List.nodup_nil).2]; simp
/-- One value of one fact is counted in. -/
def stepC (cols : List (List α)) (i : Nat) (v : α) : List (List α) := if i < cols.length then cols.set i (addV (cols.getD i []) v) else cols ++ [[v]]
def stepA : List (List α) → Nat → List α → List (List α)
  | cols, _, [] => cols
  | cols, i, v :: r => stepA (stepC cols i v) (i + 1) r
theorem stepC_len (cols : List (List α)) {i : Nat} (v : α) (h : i ≤ cols.length) : (stepC cols i v).length = max cols.length (i + 1) := by
  unfold stepC; split
  · rw [List.length_set]; omega
  · rw [List.length_append]; simp; omega
theorem stepC_at (cols : List (List α)) {i : Nat} (v : α) (h : i ≤ cols.length) (c : Nat) : (stepC cols i v)[c]? = if c = i then some (addV (cols.getD i []) v) else cols[c]? := by
  unfold stepC
  by_cases hi : i < cols.length
  · rw [if_pos hi, List.getElem?_set]
    by_cases hc : i = c
    · subst hc; simp [hi]
    · rw [if_neg hc, if_neg (fun e => hc e.symm)]
  · rw [if_neg hi]
    have e : i = cols.length := by omega
    subst e
    by_cases hc : c = cols.length
    · subst hc
      simp [addV, List.getD]
    · rw [if_neg hc]
      by_cases hl : c < cols.length
      · rw [List.getElem?_append_left hl]
      · rw [List.getElem?_append_right (by omega), List.getElem?_eq_none (by simp; omega), List.getElem?_eq_none (by omega)]
theorem stepA_len : ∀ (l : List α) (cols : List (List α)) (i : Nat), i ≤ cols.length → (stepA cols i l).length = max cols.length (i + l.length)
  | [], cols, i, h => by rw [stepA, List.length_nil]; omega
  | v :: r, cols, i, h => by
    have h1 := stepC_len cols v h
    rw [stepA, stepA_len r _ (i + 1) (by omega), h1, List.length_cons]; omega
theorem stepA_at : ∀ (l : List α) (cols : List (List α)) (i : Nat), i ≤ cols.length → ∀ c, (stepA cols i l)[c]? = if i ≤ c ∧ c < i + l.length then (l[c - i]?).map (addV (cols.getD c [])) else cols[c]?
  | [], cols, i, h, c => by rw [stepA, if_neg (by simp only [List.length_nil]; omega)]
  | v :: r, cols, i, h, c => by
    have h1 := stepC_len cols v h
    rw [stepA, stepA_at r _ (i + 1) (by omega), stepC_at cols v h]
    have hg : c ≠ i → (stepC cols i v).getD c [] = cols.getD c [] := fun hc => by
      rw [List.getD_eq_getElem?_getD, stepC_at cols v h, if_neg hc, List.getD_eq_getElem?_getD]
    by_cases hc : c = i
    · subst hc
      rw [if_neg (by omega), if_pos rfl, if_pos (by simp), Nat.sub_self]; rfl
    · rw [hg hc, if_neg hc]
      by_cases h2 : i + 1 ≤ c ∧ c < i + 1 + r.length
      · rw [if_pos h2, if_pos (by simp; omega), show c - i = c - (i + 1) + 1 by omega, List.getElem?_cons_succ]
      · rw [if_neg h2, if_neg (by simp; omega)]
/-- All tuples counted in. -/
def colsF (cols : List (List α)) (ts : List (List α)) : List (List α) := ts.foldl (fun c t => stepA c 0 t) cols
/-- A column of tuples. -/
def colOf (ts : List (List α)) (c : Nat) : List α := ts.filterMap (·[c]?)
theorem colsF_at : ∀ (ts : List (List α)) (cols : List (List α)) (c : Nat), (colsF cols ts).getD c [] = (colOf ts c).foldl addV (cols.getD c [])
  | [], cols, c => rfl
  | t :: ts, cols, c => by
    rw [colsF, List.foldl_cons]
    have ih := colsF_at ts (stepA cols 0 t) c
    rw [colsF] at ih
    rw [ih]
    have h := stepA_at t cols 0 (Nat.zero_le _) c
    rw [Nat.zero_add, Nat.sub_zero] at h
    rw [List.getD_eq_getElem?_getD, h]
    unfold colOf
    by_cases hc : c < t.length
    · rw [if_pos ⟨Nat.zero_le _, hc⟩, List.filterMap_cons]
      have e : t[c]? = some t[c] := List.getElem?_eq_getElem hc
      rw [e]
      rfl
    · have e : t[c]? = none := List.getElem?_eq_none (by omega)
      rw [if_neg (fun h => hc h.2), List.filterMap_cons, e, ← List.getD_eq_getElem?_getD]
theorem colsF_len : ∀ (ts : List (List α)) (cols : List (List α)), (colsF cols ts).length = ts.foldl (fun n t => max n t.length) cols.length
  | [], cols => rfl
  | t :: ts, cols => by
    rw [colsF, List.foldl_cons, List.foldl_cons]
    have ih := colsF_len ts (stepA cols 0 t)
    rw [colsF] at ih
    rw [ih, stepA_len t cols 0 (Nat.zero_le _), Nat.zero_add]
end
end Go.Proofs.YtkdnplebgmmclaaDoor
/- What the map of counts holds, plainly. -/
namespace Go.Proofs.YtkdnplebgmmclaaDoor
open Go.RowKit Go.WideMaps Go.Maps
set_option linter.unusedSimpArgs false
set_option linter.unusedVariables false

def ofP (p : ByteArray) (Y : List Fc) : List Fc := Y.filter fun f => decide (f.p = p)
/-- The entries are those of the names N, and count the facts Y. -/
structure CntI (es : List En) (N : List ByteArray) (Y : List Fc) : Prop where
  names : es.map (·.p) = ddV N
  rows : ∀ e ∈ es, e.rows = (ofP e.p Y).length
  cols : ∀ e ∈ es, e.cols.map (·.2) = colsF [] ((ofP e.p Y).map (·.a))
theorem CntI.nil : CntI [] [] [] := ⟨rfl, (fun e h => by cases h), (fun e h => by cases h)⟩
theorem ddV_snoc {α : Type} [DecidableEq α] (l : List α) (x : α) : ddV (l ++ [x]) = addV (ddV l) x := by
  unfold ddV; rw [List.foldl_append]; rfl
theorem CntI.old {es : List En} {N : List ByteArray} {Y : List Fc} (h : CntI es N Y) {p : ByteArray} (hp : ∃ e ∈ es, e.p = p) : CntI es (N ++ [p]) Y := by
  refine ⟨?_, h.rows, h.cols⟩
  have hm : p ∈ ddV N := by
    rw [← h.names]
    obtain ⟨e, he, rfl⟩ := hp
    exact List.mem_map.2 ⟨e, he, rfl⟩
  rw [ddV_snoc, h.names]
  unfold addV; rw [if_pos hm]
theorem CntI.more {es : List En} {N : List ByteArray} {Y : List Fc} (h : CntI es N Y) {p : ByteArray} {nb : Nat} {lv : Value} (hp : ∀ e ∈ es, e.p ≠ p) (hY : ∀ f ∈ Y, f.p ∈ N) : CntI (es ++ [⟨p, nb, 0, lv, []⟩]) (N ++ [p]) Y := by
  have hm : p ∉ ddV N := by
    rw [← h.names]
    intro hm
    obtain ⟨e, he, e1⟩ := List.mem_map.1 hm
    exact hp e he e1
  have h0 : ofP p Y = [] := by
    unfold ofP
    rw [List.filter_eq_nil_iff]
    intro f hf hd
    have e1 : f.p = p := of_decide_eq_true hd
    exact hm (mem_ddV.2 (e1 ▸ hY f hf))
  refine ⟨?_, fun e he => ?_, fun e he => ?_⟩
  · rw [ddV_snoc, List.map_append, h.names]
    unfold addV; rw [if_neg hm]; rfl
  · rcases List.mem_append.1 he with he | he
    · exact h.rows e he
    · rw [List.mem_singleton] at he
      subst he
      show 0 = _
      rw [h0]; rfl
  · rcases List.mem_append.1 he with he | he
    · exact h.cols e he
    · rw [List.mem_singleton] at he
      subst he
      show [] = colsF [] ((ofP p Y).map (·.a))
      rw [h0]; rfl
theorem ofP_snoc (p : ByteArray) (Y : List Fc) (f : Fc) : ofP p (Y ++ [f]) = if f.p = p then ofP p Y ++ [f] else ofP p Y := by
  unfold ofP
  rw [List.filter_append]
  by_cases h : f.p = p <;> simp [h]
theorem CntI.step {es : List En} {N : List ByteArray} {Y : List Fc} (h : CntI es N Y) {f : Fc} {j : Nat} {e e' : En} (hj : es[j]? = some e) (hp : e.p = f.p) (hp' : e'.p = e.p) (hr : e'.rows = e.rows + 1) (hc : e'.cols.map (·.2) = stepA (e.cols.map (·.2)) 0 f.a) (hd : ∀ (i : Nat) (x : En), es[i]? = some x → x.p = f.p → i = j) : CntI (es.set j e') N (Y ++ [f]) := by
  have hm : ∀ x ∈ es.set j e', x = e' ∨ (x ∈ es ∧ x.p ≠ f.p) := fun x hx => by
    obtain ⟨i, hi⟩ := List.mem_iff_getElem?.1 hx
    rcases set_at hi with ⟨_, h1⟩ | ⟨hij, h1⟩
    · exact .inl h1
    · exact .inr ⟨List.mem_of_getElem? h1, fun h2 => hij (hd i x h1 h2)⟩
  refine ⟨?_, fun x hx => ?_, fun x hx => ?_⟩
  · rw [← h.names, List.map_set]
    refine List.ext_getElem? fun i => ?_
    rw [List.getElem?_set]
    split
    · rename_i hij
      subst hij
      rw [List.length_map, if_pos (List.getElem?_eq_some_iff.1 hj).1, List.getElem?_map, hj, hp']; rfl
    · rfl
  · rcases hm x hx with rfl | ⟨h1, h2⟩
    · rw [hr, hp', ofP_snoc, if_pos hp.symm, List.length_append, h.rows e (List.mem_of_getElem? hj)]; rfl
    · rw [ofP_snoc, if_neg (fun h3 => h2 h3.symm)]; exact h.rows x h1
  · rcases hm x hx with rfl | ⟨h1, h2⟩
    · rw [hc, hp', ofP_snoc, if_pos hp.symm, h.cols e (List.mem_of_getElem? hj), List.map_append]
      unfold colsF
      rw [List.foldl_append]; rfl
    · rw [ofP_snoc, if_neg (fun h3 => h2 h3.symm)]; exact h.cols x h1
theorem CntI.one {es : List En} {N : List ByteArray} {Y : List Fc} (h : CntI es N Y) {i j : Nat} {x y : En} (hi : es[i]? = some x) (hj : es[j]? = some y) (he : x.p = y.p) : i = j := by
  have hn : (es.map (·.p)).Nodup := by rw [h.names]; exact ddV_nodup _
  have h1 := List.getElem?_eq_some_iff.1 hi
  have h2 := List.getElem?_eq_some_iff.1 hj
  refine (List.getElem_inj (xs := es.map (·.p)) (h₀ := by rw [List.length_map]; exact h1.1) (h₁ := by rw [List.length_map]; exact h2.1) hn).1 ?_
  rw [List.getElem_map, List.getElem_map, h1.2, h2.2]
  exact he
/-- A value is taken into a column's map. -/
theorem MapE.addV {w : World} {b : Nat} {l : List V} (h : MapE V.val w b (colE l)) (hok : ∀ v ∈ l, v.ok) {v : V} (hv : v.ok) :
    ∃ w', (Instr.mapUpdate 53 (.map (some b)) v.val unit0).run Tryd.prog w = .ok () w' ∧ MapE V.val w' b (colE (addV l v)) ∧ w.grownBy w' (some b) := by
  have hok' : ∀ q ∈ colE l, q.1.ok := fun q hq => by
    obtain ⟨x, hx, rfl⟩ := List.mem_map.1 hq
    exact hok x hx
  by_cases hm : v ∈ l
  · obtain ⟨j, hj⟩ := List.mem_iff_getElem?.1 hm
    have hj' : (colE l)[j]? = some (v, unit0) := by unfold colE; rw [List.getElem?_map, hj]; rfl
    obtain ⟨w', h1, h2, h3⟩ := h.put keyV hok' Tryd.underlying53 hv hj' unit0
    refine ⟨w', h1, ?_, h3⟩
    have e : (colE l).set j (v, unit0) = colE (Go.Proofs.YtkdnplebgmmclaaDoor.addV l v) := by
      have e2 : Go.Proofs.YtkdnplebgmmclaaDoor.addV l v = l := by unfold Go.Proofs.YtkdnplebgmmclaaDoor.addV; rw [if_pos hm]
      rw [e2]
      refine List.ext_getElem? fun i => ?_
      rw [List.getElem?_set]
      split
      · rename_i hij
        subst hij
        rw [if_pos (List.getElem?_eq_some_iff.1 hj').1, hj']
      · rfl
    rwa [e] at h2
  · obtain ⟨w', h1, h2, h3⟩ := h.push keyV hok' Tryd.underlying53 hv (fun q hq e => by
      obtain ⟨x, hx, rfl⟩ := List.mem_map.1 hq
      exact hm (e ▸ hx)) unit0
    refine ⟨w', h1, ?_, h3⟩
    have e : colE l ++ [(v, unit0)] = colE (Go.Proofs.YtkdnplebgmmclaaDoor.addV l v) := by
      have e2 : Go.Proofs.YtkdnplebgmmclaaDoor.addV l v = l ++ [v] := by unfold Go.Proofs.YtkdnplebgmmclaaDoor.addV; rw [if_neg hm]
      rw [e2]
      unfold colE
      rw [List.map_append]; rfl
    rwa [e] at h2
theorem wpList_mapAdd {ops : Array Oper} {rest : List Oper} {o : Oper} {a : Act} {Q : Exit → Act → World → Prop} {w : World} {b : Nat} {l : List V} {v : V} (hgd : Region.wanted o (yielded ops a.tmps) = true) (m y z : Operand)
    (ho : o.op = .mapUpdate 53 m y z) (hm : a.eval m = .map (some b)) (hy : a.eval y = v.val) (hz : a.eval z = unit0) (h : MapE V.val w b (colE l)) (hok : ∀ v ∈ l, v.ok) (hv : v.ok)
    (hk : ∀ w', MapE V.val w' b (colE (addV l v)) → w.grownBy w' (some b) → wpList Tryd.prog ops Q rest (a.put o.dst undef) w') : wpList Tryd.prog ops Q (o :: rest) a w := by
  obtain ⟨w', hr, h2, h3⟩ := h.addV hok hv
  refine wpList_of_skip hgd (w' := w') ?_ (hk w' h2 h3)
  unfold execOp
  simp only [ho, hm, hy, hz, hr, Sem.run_bind, Sem.run_pure, Result.andThen_ok]
end Go.Proofs.YtkdnplebgmmclaaDoor
