/- RowW, Rel0, RelN, RelR -/
import Derived.Deep.MidRow
import Derived.Test.YtcekphjcmippoaaProg
import Derived.Lib.Hide
import Derived.WalkSpells
import Derived.WalkLawsBesides
import Derived.WalkKit
import Derived.Laws.Pointers
import Derived.Deep.QuietTactic
import Derived.BigQuiet
import Derived.Test.YtcekphjcmippoaaC02
/- Rows in memory: read and written whole; what may have turned. No program. -/
namespace Go.Proofs.Ytcekphjcmippoaa
open Go.RowKit Go.WideMaps
set_option linter.unusedSimpArgs false
set_option linter.unusedVariables false

/-! ### What may have turned -/
/-- Nothing but the blocks of S has turned. -/
structure Only (S : Nat → Prop) (w w' : World) : Prop where
  os : w'.os = w.os
  tape : w'.tape = w.tape
  output : w'.output = w.output
  size : w.heap.size ≤ w'.heap.size
  block : ∀ k, k < w.heap.size → ¬ S k → w'.heap[k]? = w.heap[k]?
theorem Only.fut {S : Nat → Prop} {w w' : World} (h : Fut w w') : Only S w w' := ⟨h.os, h.tape, h.output, h.size, fun k hk _ => Below.block h k hk⟩
theorem Only.toFut {S : Nat → Prop} {w w' : World} (h : Only S w w') (hS : ∀ k, S k → w.heap.size ≤ k) : Fut w w' := ⟨h.os, h.tape, h.output, h.size, fun k hk => h.block k hk fun hs => by have := hS k hs; omega⟩
theorem Only.refl {S : Nat → Prop} (w : World) : Only S w w := Only.fut (Fut.refl w)
theorem Only.trans {S : Nat → Prop} {a b c : World} (h : Only S a b) (k : Only S b c) : Only S a c :=
  ⟨k.os.trans h.os, k.tape.trans h.tape, k.output.trans h.output, Nat.le_trans h.size k.size, fun i hi hn => (k.block i (Nat.lt_of_lt_of_le hi h.size) hn).trans (h.block i hi hn)⟩
theorem Only.mono {S S' : Nat → Prop} {w w' : World} (h : Only S w w') (hS : ∀ k, k < w.heap.size → S k → S' k) : Only S' w w' :=
  ⟨h.os, h.tape, h.output, h.size, fun k hk hn => h.block k hk fun hs => hn (hS k hk hs)⟩
/-- .. the second step turns what the first may turn, or what is new. -/
theorem Only.then {S S' : Nat → Prop} {a b c : World} (h : Only S a b) (k : Only S' b c) (hS : ∀ i, S' i → i < a.heap.size → S i) : Only S a c :=
  ⟨k.os.trans h.os, k.tape.trans h.tape, k.output.trans h.output, Nat.le_trans h.size k.size, fun i hi hn => (k.block i (Nat.lt_of_lt_of_le hi h.size) (fun hs => hn (hS i hs hi))).trans (h.block i hi hn)⟩
theorem Only.grown {S : Nat → Prop} {w w' : World} {row : Option Nat} (hg : w.grownBy w' row) (hS : ∀ k, row = some k → S k) : Only S w w' :=
  ⟨hg.os, hg.tape, hg.output, hg.size, fun k hk hn => hg.block k hk (fun e => hn (hS k e.symm))⟩
theorem Only.set {S : Nat → Prop} {w : World} (p : Addr) (v : Value) (hS : S p.block) : Only S w (w.setCell p v) :=
  ⟨rfl, rfl, rfl, by show _ ≤ (w.heap.modify _ _).size; rw [Array.size_modify]; exact Nat.le_refl _, fun k hk hn => Below.heap_setCell w p v k (fun e => hn (e ▸ hS))⟩
theorem Only.put {S : Nat → Prop} {w : World} (g : Nat) (o : Obj) (hS : S g) : Only S w (w.putObj g o) :=
  ⟨rfl, rfl, rfl, by simp [World.putObj], fun k hk hn => World.putObj_heap_other (fun e => hn (e ▸ hS))⟩
theorem Only.keeps {S : Nat → Prop} {w w' : World} (h : Only S w w') {k : Nat} {o : Obj} (ho : w.heap[k]? = some o) (hn : ¬ S k) : w'.heap[k]? = some o :=
  (h.block k (Array.getElem?_eq_some_iff.1 ho).1 hn).trans ho
theorem Only.cell {S : Nat → Prop} {w w' : World} (h : Only S w w') {p : Addr} {v : Value} (hc : w.cell? p = some v) (hn : ¬ S p.block) : w'.cell? p = some v :=
  (World.cell?_of_block (h.block p.block (lt_of_cell hc) hn)).trans hc

/-! ### Rows in memory -/
/-- The row x lies in block b from offset off on. -/
def RowAt (w : World) (b off : Nat) (x : Rw) : Prop := Rw.ok x ∧ ∀ j c, (Rw.cells x)[j]? = some c → w.cell? ⟨b, off + j, none⟩ = some c
theorem RowAt.fut {w w' : World} {b off : Nat} {x : Rw} (h : RowAt w b off x) (hf : Fut w w') : RowAt w' b off x := ⟨h.1, fun j c hj => hf.cell (h.2 j c hj)⟩
theorem RowAt.only {S : Nat → Prop} {w w' : World} {b off : Nat} {x : Rw} (h : RowAt w b off x) (ho : Only S w w') (hn : ¬ S b) : RowAt w' b off x := ⟨h.1, fun j c hj => ho.cell (h.2 j c hj) hn⟩
theorem RowAt.of_block {w : World} {b : Nat} {t : TypeId} {fr : Nat × Nat} {x : Rw} (hx : Rw.ok x) (h : w.heap[b]? = some (.cells (Rw.cells x).toArray t fr)) : RowAt w b 0 x := ⟨hx, fun j c hj => by
  rw [Nat.zero_add]; simp [World.cell?, h, hj]⟩
theorem RowAt.new (w : World) (t : TypeId) {x : Rw} (hx : Rw.ok x) : RowAt (w.alloc (.cells (Rw.cells x).toArray t)) w.heap.size 0 x := RowAt.of_block hx (heap_alloc_new w _)
/-- An element of a list of rows. -/
theorem rows_at {w : World} {A : Option Addr} {n cap M : Nat} {xs : List Rw} (h : SlRep 24 M RR w (.slice A n cap) xs) {k : Nat} (hk : k < xs.length) : ∃ b off, A = some ⟨b, off, none⟩ ∧ RowAt w b (off + k * 24) xs[k] := by
  obtain ⟨A1, cap1, hv, _, _, h3⟩ := h
  obtain ⟨b, off, cs, hA, hl, hc, hr⟩ := h3 k _ (List.getElem?_eq_getElem hk)
  injection hv with hv _ _
  refine ⟨b, off, hv.trans hA, hr.2, fun j c hj => ?_⟩
  rw [← hr.1] at hj
  rw [Nat.add_assoc]
  exact hc j c hj
theorem rows_ok {w : World} {v : Value} {M : Nat} {xs : List Rw} (h : SlRep 24 M RR w v xs) : ∀ x ∈ xs, Rw.ok x := by
  obtain ⟨A, cap, _, _, _, h3⟩ := h
  intro x hx
  obtain ⟨i, hi⟩ := List.getElem?_of_mem hx
  obtain ⟨_, _, _, _, _, _, hr⟩ := h3 i x hi
  exact hr.2

structure RowTy (P : Program) (k e : TypeId) : Prop where
  A : ArrKey P k e 24
  he : P.underlying e = some (.int .i32)
  hsz : ∃ m, P.types.size = m + 1
  hi : (P.info? k).map (·.size) = some 24
section
variable {P : Program} {k e : TypeId} {w : World} {b off : Nat} {r : Rw} {o : Oper} {a : Act}
theorem run_loadVar_R (T : RowTy P k e) (hr : RowAt w b off r) : (loadVar k ⟨b, off, none⟩).run P w = .ok (Rw.val r) w :=
  run_loadVar_mid w b off k (Rw.cells r) _ (fun j v hj => hr.2 j v hj) T.A.hu rfl (by rw [T.hi, Rw.cells_len hr.1])
theorem exec_load_R (T : RowTy P k e) (x : Operand) (ho : o.op = .load k x) (hx : a.eval x = .pointer (some ⟨b, off, none⟩)) (hr : RowAt w b off r) : (execOp a.eval o).run P w = .ok (.value (Rw.val r)) w := by
  unfold execOp
  simp only [ho, hx, Instr.loadAt, Instr.sureAddr, Sem.run_bind, Sem.run_pure, Result.andThen_ok, run_loadVar_R T hr]
theorem wpList_of_run {ops : Array Oper} {rest : List Oper} {Q : Exit → Act → World → Prop} {v : Value} {w' : World} (hgd : Region.wanted o (yielded ops a.tmps) = true)
    (hrun : (execOp a.eval o).run P w = .ok (.value v) w') (h : wpList P ops Q rest (a.put o.dst v) w') : wpList P ops Q (o :: rest) a w := by
  refine wpList_step fun K hK => ?_
  rw [if_pos hgd]
  unfold Oper.wp
  rw [hrun]
  exact hK _ _ h
theorem wpList_of_skip {ops : Array Oper} {rest : List Oper} {Q : Exit → Act → World → Prop} {w' : World} (hgd : Region.wanted o (yielded ops a.tmps) = true)
    (hrun : (execOp a.eval o).run P w = .ok .skip w') (h : wpList P ops Q rest (a.put o.dst undef) w') : wpList P ops Q (o :: rest) a w := by
  refine wpList_step fun K hK => ?_
  rw [if_pos hgd]
  unfold Oper.wp
  rw [hrun]
  exact hK _ _ h
theorem wpList_load_R {ops : Array Oper} {rest : List Oper} {Q : Exit → Act → World → Prop} (T : RowTy P k e) (hgd : Region.wanted o (yielded ops a.tmps) = true) (x : Operand) (ho : o.op = .load k x) (hx : a.eval x = .pointer (some ⟨b, off, none⟩)) (hr : RowAt w b off r)
    (h : wpList P ops Q rest (a.put o.dst (Rw.val r)) w) : wpList P ops Q (o :: rest) a w :=
  wpList_of_run hgd (exec_load_R T x ho hx hr) h

theorem setCells_put {t : TypeId} {fr : Nat × Nat} : ∀ (vs : List Value) (o : Nat) (w : World) (arr : Array Value), w.heap[b]? = some (.cells arr t fr) →
    ∃ arr', w.setCells b o vs = w.putObj b (.cells arr' t fr) ∧ arr'.size = arr.size ∧ ∀ j, arr'[j]? = if o ≤ j ∧ j < o + vs.length ∧ j < arr.size then vs[j - o]? else arr[j]?
  | [], o, w, arr, h => ⟨arr, by
      simp only [World.setCells, World.putObj]
      have hlt := (Array.getElem?_eq_some_iff.1 h)
      obtain ⟨hl, he⟩ := hlt
      have : w.heap.setIfInBounds b (.cells arr t fr) = w.heap := by
        refine Array.ext_getElem? fun i => ?_
        by_cases hi : i = b
        · subst hi; rw [h]; simp [hl]
        · rw [Array.getElem?_setIfInBounds_ne (Ne.symm hi)]
      rw [this], rfl, fun j => by rw [if_neg (by simp; omega)]⟩
  | v :: vs, o, w, arr, h => by
    have hs : (w.setCell ⟨b, o, none⟩ v).heap[b]? = some (.cells (arr.setIfInBounds o v) t fr) := by simp [World.setCell, Array.getElem?_modify, h]
    obtain ⟨arr', h1, h2, h3⟩ := setCells_put vs (o + 1) _ _ hs
    refine ⟨arr', ?_, by rw [h2]; simp, fun j => ?_⟩
    · simp only [World.setCells]
      rw [h1]
      simp only [World.putObj, World.setCell]
      congr 1
      refine Array.ext_getElem? fun i => ?_
      by_cases hi : i = b
      · subst hi
        have hl := (Array.getElem?_eq_some_iff.1 h).1
        simp [hl]
      · rw [Array.getElem?_setIfInBounds_ne (Ne.symm hi), Array.getElem?_setIfInBounds_ne (Ne.symm hi), Array.getElem?_modify, if_neg (Ne.symm hi)]
    · rw [h3]
      simp only [Array.size_setIfInBounds, List.length_cons]
      by_cases h4 : j = o
      · subst h4
        rw [if_neg (by omega)]
        by_cases h5 : j < arr.size
        · rw [if_pos (by omega)]; simp [h5]
        · rw [if_neg (by omega)]; simp [h5]
      · rw [Array.getElem?_setIfInBounds_ne (Ne.symm h4)]
        by_cases h5 : o + 1 ≤ j ∧ j < o + 1 + vs.length ∧ j < arr.size
        · rw [if_pos h5, if_pos (by omega), show j - o = (j - (o + 1)) + 1 by omega, List.getElem?_cons_succ]
        · rw [if_neg h5, if_neg (by omega)]
/-- A row is written over a block of 24 cells. -/
theorem exec_store_R (T : RowTy P k e) {t : TypeId} {arr : Array Value} (x y : Operand) (ho : o.op = .store k x y) (hx : a.eval x = .pointer (some ⟨b, 0, none⟩)) (hy : a.eval y = Rw.val r) (hb : w.heap[b]? = some (.cells arr t (0, 0))) (hs : arr.size = 24) (hr : Rw.ok r) :
    (execOp a.eval o).run P w = .ok .skip (w.putObj b (.cells (Rw.cells r).toArray t (0, 0))) := by
  have hl := Rw.cells_len hr
  have hsz : (Rw.cells r).toArray.size = 24 := by simpa using hl
  have h1 := run_storeVar_mid (P := P) w b 0 k (Rw.cells r).toArray (fun j hj => by
    rw [hsz] at hj
    refine ⟨?_, ?_⟩
    · rw [Nat.zero_add]; simp [World.cell?, hb]; try omega
    · simp [World.frozen?, hb]) (by rw [T.hi, hsz]) (all_oneCell_toArray fun v hv => RR.one w _ r ⟨rfl, hr⟩ v hv)
  obtain ⟨arr', h2, h3, h4⟩ := setCells_put (Rw.cells r) 0 w arr hb
  have e1 : arr' = (Rw.cells r).toArray := by
    refine Array.ext_getElem? fun j => ?_
    rw [h4]
    by_cases hj : j < 24
    · rw [if_pos (by omega)]; simp
    · rw [if_neg (by omega)]
      rw [Array.getElem?_eq_none (by omega), Array.getElem?_eq_none (by omega)]
  simp only at h1
  rw [h2, e1] at h1
  unfold execOp
  simp only [ho, hx, hy, Rw.val, Instr.storeAt, Instr.sureAddr, Sem.run_bind, Sem.run_pure, Result.andThen_ok, h1]
theorem putObj_alloc (w : World) (o o' : Obj) : (w.alloc o).putObj w.heap.size o' = w.alloc o' := by
  unfold World.putObj World.alloc
  congr 1
  refine Array.ext_getElem? fun j => ?_
  by_cases hj : j = w.heap.size
  · subst hj; simp
  · rw [Array.getElem?_setIfInBounds_ne (Ne.symm hj), Array.getElem?_push, Array.getElem?_push]
    simp [hj]
theorem wpList_store_R {ops : Array Oper} {rest : List Oper} {Q : Exit → Act → World → Prop} (T : RowTy P k e) (hgd : Region.wanted o (yielded ops a.tmps) = true) {t : TypeId} {arr : Array Value} (x y : Operand) (ho : o.op = .store k x y) (hx : a.eval x = .pointer (some ⟨b, 0, none⟩)) (hy : a.eval y = Rw.val r) (hb : w.heap[b]? = some (.cells arr t (0, 0))) (hs : arr.size = 24) (hr : Rw.ok r)
    (h : wpList P ops Q rest (a.put o.dst undef) (w.putObj b (.cells (Rw.cells r).toArray t (0, 0)))) : wpList P ops Q (o :: rest) a w :=
  wpList_of_skip hgd (exec_store_R T x y ho hx hy hb hs hr) h
/-- .. over one just made. -/
theorem wpList_store_new {ops : Array Oper} {rest : List Oper} {Q : Exit → Act → World → Prop} (T : RowTy P k e) (hgd : Region.wanted o (yielded ops a.tmps) = true) {t : TypeId} {arr : Array Value} (x y : Operand) (ho : o.op = .store k x y) (hx : a.eval x = .pointer (some ⟨w.heap.size, 0, none⟩)) (hy : a.eval y = Rw.val r) (hs : arr.size = 24) (hr : Rw.ok r)
    (h : wpList P ops Q rest (a.put o.dst undef) (w.alloc (.cells (Rw.cells r).toArray t))) : wpList P ops Q (o :: rest) a (w.alloc (.cells arr t)) := by
  refine wpList_store_R T hgd x y ho hx hy (heap_alloc_new w _) hs hr ?_
  rw [putObj_alloc]; exact h
end
@[simp] theorem Rw.val_cells (x : Rw) : (Rw.val x).cells = (Rw.cells x).toArray := rfl
end Go.Proofs.Ytcekphjcmippoaa
/- relation.Relation: what it is in memory; New, Arity, Len, Gone, At, Has. -/
namespace Go.Proofs.Ytcekphjcmippoaa
open Go.RowKit Go.WideMaps
set_option linter.unusedSimpArgs false
set_option linter.unusedVariables false

theorem rowTy : RowTy Try.prog 32 30 where
  A := ⟨Try.underlying32, by kernel_rfl, by kernel_rfl, by kernel_rfl⟩
  he := Try.underlying30
  hsz := ⟨Try.prog.types.size - 1, by kernel_rfl⟩
  hi := by kernel_rfl
def zeroRow : Rw := [0, 0, 0, 0, 0, 0, 0, 0, 0, 0, 0, 0, 0, 0, 0, 0, 0, 0, 0, 0, 0, 0, 0, 0]
theorem zeroRow_ok : Rw.ok zeroRow := ⟨rfl, fun a ha => by
  have : a = 0 := by simpa [zeroRow] using ha
  subst this; decide⟩
theorem infoR : (Try.prog.info? 32).map (fun i => (i.zero, i.size, i.bytes)) = some (some (Rw.val zeroRow), 24, 96) := by kernel_rfl

/-- Where a row stands. -/
def idx (xs : List Rw) (x : Rw) : Option Int := if x ∈ xs then some ((xs.idxOf x : Nat) : Int) else none
theorem idx_isSome (xs : List Rw) (x : Rw) : (idx xs x).isSome = decide (x ∈ xs) := by
  unfold idx
  by_cases h : x ∈ xs <;> simp [h]
theorem idx_push {xs : List Rw} {x : Rw} (h : x ∉ xs) : (fun y => if y = x then some ((xs.length : Nat) : Int) else idx xs y) = idx (xs ++ [x]) := by
  funext y
  unfold idx
  by_cases hy : y = x
  · subst hy
    simp [h, List.idxOf_append]
  · rw [if_neg hy]
    by_cases hm : y ∈ xs
    · simp [hm, List.idxOf_append]
    · simp [hm, hy]

/-- places. -/
structure PlI (B : Nat) (w : World) (pb mb : Nat) (lv : Value) (xs : List Rw) : Prop where
  blk : w.heap[pb]? = some (.cells #[lv, .map (some mb)] 77 (0, 0))
  list : OwnL 24 B 32 RR w lv xs
  map : MapR w mb (idx xs)
  base : B ≤ pb ∧ B ≤ mb
  nodup : xs.Nodup
def pfoot (pb mb : Nat) (lv : Value) (k : Nat) : Prop := k = pb ∨ k = mb ∨ lv.ownBlock = some k
/-- A relation. -/
structure RelI (B : Nat) (w : World) (b pb mb : Nat) (lv : Value) (ar gone : Nat) (xs : List Rw) : Prop where
  blk : w.heap[b]? = some (.cells #[.int .i64 ar, .int .i64 gone, .pointer (some ⟨pb, 0, none⟩)] 73 (0, 0))
  pl : PlI B w pb mb lv xs
  base : B ≤ b
  wide : ar ≤ 24
def foot (b pb mb : Nat) (lv : Value) (k : Nat) : Prop := k = b ∨ pfoot pb mb lv k
section
variable {B : Nat} {w w' : World} {b pb mb : Nat} {lv : Value} {ar gone : Nat} {xs : List Rw} {S : Nat → Prop}
theorem PlI.lt (h : PlI B w pb mb lv xs) : ∀ k, pfoot pb mb lv k → k < w.heap.size := by
  rintro k (rfl | rfl | hk)
  · exact (Array.getElem?_eq_some_iff.1 h.blk).1
  · exact h.map.lt
  · exact (h.list.block k hk).2
theorem PlI.ge (h : PlI B w pb mb lv xs) : ∀ k, pfoot pb mb lv k → B ≤ k := by
  rintro k (rfl | rfl | hk)
  · exact h.base.1
  · exact h.base.2
  · exact (h.list.block k hk).1
theorem RelI.lt (h : RelI B w b pb mb lv ar gone xs) : ∀ k, foot b pb mb lv k → k < w.heap.size := by
  rintro k (rfl | hk)
  · exact (Array.getElem?_eq_some_iff.1 h.blk).1
  · exact h.pl.lt k hk
theorem RelI.ge (h : RelI B w b pb mb lv ar gone xs) : ∀ k, foot b pb mb lv k → B ≤ k := by
  rintro k (rfl | hk)
  · exact h.base
  · exact h.pl.ge k hk
theorem OwnL.only {α : Type} {sz : Nat} {e : TypeId} {R : World → List Value → α → Prop} {v : Value} {ys : List α} (h : OwnL sz B e R w v ys) (hR : ∀ cs x, R w cs x → R w' cs x) (hg : Only S w w') (hne : ∀ k, v.ownBlock = some k → ¬ S k) : OwnL sz B e R w' v ys := by
  obtain ⟨css, h1, h2, h3, h4⟩ := h
  refine ⟨css, h1, fun i cs x hi hx => ⟨(h2 i cs x hi hx).1, hR _ _ (h2 i cs x hi hx).2⟩, h3, ?_⟩
  rcases h4 with h4 | ⟨g, cap, cur, a1, a2, a3, a4⟩
  · exact .inl h4
  · exact .inr ⟨g, cap, cur, a1, a2, hg.keeps a3 (hne g (by rw [a1]; rfl)), a4⟩
theorem PlI.only (h : PlI B w pb mb lv xs) (hg : Only S w w') (hne : ∀ k, pfoot pb mb lv k → ¬ S k) : PlI B w' pb mb lv xs where
  blk := hg.keeps h.blk (hne _ (.inl rfl))
  list := h.list.only (fun _ _ h => h) hg fun k hk => hne k (.inr (.inr hk))
  map := h.map.kept (hg.block mb h.map.lt (hne _ (.inr (.inl rfl))))
  base := h.base
  nodup := h.nodup
theorem RelI.only (h : RelI B w b pb mb lv ar gone xs) (hg : Only S w w') (hne : ∀ k, foot b pb mb lv k → ¬ S k) : RelI B w' b pb mb lv ar gone xs where
  blk := hg.keeps h.blk (hne _ (.inl rfl))
  pl := h.pl.only hg fun k hk => hne k (.inr hk)
  base := h.base
  wide := h.wide
theorem RelI.fut (h : RelI B w b pb mb lv ar gone xs) (hf : Fut w w') : RelI B w' b pb mb lv ar gone xs := h.only (S := fun _ => False) (Only.fut hf) fun _ _ h => h
theorem PlI.fut (h : PlI B w pb mb lv xs) (hf : Fut w w') : PlI B w' pb mb lv xs := h.only (S := fun _ => False) (Only.fut hf) fun _ _ h => h
theorem PlI.form (h : PlI B w pb mb lv xs) : ∃ A cap, lv = .slice A xs.length cap ∧ xs.length ≤ cap ∧ cap ≤ 9223372036854775807 := by
  obtain ⟨A, cap, h1, h2, h3⟩ := h.list.rep.form
  exact ⟨A, cap, h1, h2, by unfold maxLen at h3; omega⟩
theorem cell_at {g : Nat} {cs : Array Value} {t : TypeId} {fr : Nat × Nat} (h : w.heap[g]? = some (.cells cs t fr)) (j : Nat) (v : Value) (hj : cs[j]? = some v) : w.cell? ⟨g, j, none⟩ = some v := by
  simp [World.cell?, h, hj]
theorem free_at {g : Nat} {cs : Array Value} {t : TypeId} (h : w.heap[g]? = some (.cells cs t (0, 0))) (j : Nat) : w.frozen? ⟨g, j, none⟩ = false := by
  simp [World.frozen?, h]
end

/-! ### Is it there? Its arity, its rows, its number of those that are gone -/
set_option maxHeartbeats 400000 in
set_option maxRecDepth 100000 in
theorem there_any {B : Nat} {w : World} {b pb mb : Nat} {lv : Value} {ar gone : Nat} {xs : List Rw} (h : RelI B w b pb mb lv ar gone xs) :
    Calls Try.prog 30 #[.pointer (some ⟨b, 0, none⟩)] w fun e w' => e = .returned (.bool true) ∧ w' = w := by
  have c0 := cell_at h.blk 0 _ rfl
  have c1 := cell_at h.blk 1 _ rfl
  have c2 := cell_at h.blk 2 _ rfl
  have p0 := cell_at h.pl.blk 0 _ rfl
  obtain ⟨A, cap, rfl, hl, hm⟩ := h.pl.form
  clear h
  go_enter Try.func30, Try.ntmps30
  go_wp2
  go_ret
  exact ⟨rfl, rfl⟩
set_option maxHeartbeats 400000 in
set_option maxRecDepth 100000 in
theorem there_nil (w : World) : Calls Try.prog 30 #[.pointer none] w fun e w' => e = .returned (.bool false) ∧ w' = w := by
  go_enter Try.func30, Try.ntmps30
  go_wp2
  go_ret
  exact ⟨rfl, rfl⟩
set_option maxHeartbeats 400000 in
set_option maxRecDepth 100000 in
theorem arity_any {B : Nat} {w : World} {b pb mb : Nat} {lv : Value} {ar gone : Nat} {xs : List Rw} (h : RelI B w b pb mb lv ar gone xs) :
    Calls Try.prog 11 #[.pointer (some ⟨b, 0, none⟩)] w fun e w' => e = .returned (.int .i64 ar) ∧ w' = w := by
  have c0 := cell_at h.blk 0 _ rfl
  have c1 := cell_at h.blk 1 _ rfl
  have c2 := cell_at h.blk 2 _ rfl
  have p0 := cell_at h.pl.blk 0 _ rfl
  obtain ⟨A, cap, rfl, hl, hm⟩ := h.pl.form
  clear h
  go_enter Try.func11, Try.ntmps11
  go_wp2
  go_ret
  exact ⟨rfl, rfl⟩
set_option maxHeartbeats 400000 in
set_option maxRecDepth 100000 in
theorem arity_nil (w : World) : Calls Try.prog 11 #[.pointer none] w fun e w' => e = .returned (.int .i64 0) ∧ w' = w := by
  go_enter Try.func11, Try.ntmps11
  go_wp2
  go_ret
  exact ⟨rfl, rfl⟩
set_option maxHeartbeats 400000 in
set_option maxRecDepth 100000 in
theorem len_any {B : Nat} {w : World} {b pb mb : Nat} {lv : Value} {ar gone : Nat} {xs : List Rw} (h : RelI B w b pb mb lv ar gone xs) :
    Calls Try.prog 13 #[.pointer (some ⟨b, 0, none⟩)] w fun e w' => e = .returned (.int .i64 xs.length) ∧ w' = w := by
  have c0 := cell_at h.blk 0 _ rfl
  have c1 := cell_at h.blk 1 _ rfl
  have c2 := cell_at h.blk 2 _ rfl
  have p0 := cell_at h.pl.blk 0 _ rfl
  obtain ⟨A, cap, rfl, hl, hm⟩ := h.pl.form
  clear h
  go_enter Try.func13, Try.ntmps13
  go_wp2
  go_ret
  exact ⟨rfl, rfl⟩
set_option maxHeartbeats 400000 in
set_option maxRecDepth 100000 in
theorem len_nil (w : World) : Calls Try.prog 13 #[.pointer none] w fun e w' => e = .returned (.int .i64 0) ∧ w' = w := by
  go_enter Try.func13, Try.ntmps13
  go_wp2
  go_ret
  exact ⟨rfl, rfl⟩
set_option maxHeartbeats 400000 in
set_option maxRecDepth 100000 in
theorem gone_any {B : Nat} {w : World} {b pb mb : Nat} {lv : Value} {ar gone : Nat} {xs : List Rw} (h : RelI B w b pb mb lv ar gone xs) :
    Calls Try.prog 12 #[.pointer (some ⟨b, 0, none⟩)] w fun e w' => e = .returned (.int .i64 gone) ∧ w' = w := by
  have c0 := cell_at h.blk 0 _ rfl
  have c1 := cell_at h.blk 1 _ rfl
  have c2 := cell_at h.blk 2 _ rfl
  have p0 := cell_at h.pl.blk 0 _ rfl
  obtain ⟨A, cap, rfl, hl, hm⟩ := h.pl.form
  clear h
  go_enter Try.func12, Try.ntmps12
  go_wp2
  go_ret
  exact ⟨rfl, rfl⟩
set_option maxHeartbeats 400000 in
set_option maxRecDepth 100000 in
theorem gone_nil (w : World) : Calls Try.prog 12 #[.pointer none] w fun e w' => e = .returned (.int .i64 0) ∧ w' = w := by
  go_enter Try.func12, Try.ntmps12
  go_wp2
  go_ret
  exact ⟨rfl, rfl⟩
end Go.Proofs.Ytcekphjcmippoaa
/- relation.New, At, Has. -/
namespace Go.Proofs.Ytcekphjcmippoaa
open Go.RowKit Go.WideMaps
set_option linter.unusedSimpArgs false
set_option linter.unusedVariables false

theorem zeros_eq : #[Value.int .i32 0, Value.int .i32 0, Value.int .i32 0, Value.int .i32 0, Value.int .i32 0, Value.int .i32 0, Value.int .i32 0, Value.int .i32 0, Value.int .i32 0, Value.int .i32 0, Value.int .i32 0, Value.int .i32 0, Value.int .i32 0, Value.int .i32 0, Value.int .i32 0, Value.int .i32 0, Value.int .i32 0, Value.int .i32 0, Value.int .i32 0, Value.int .i32 0, Value.int .i32 0, Value.int .i32 0, Value.int .i32 0, Value.int .i32 0] = (Rw.cells zeroRow).toArray := rfl
theorem results_row {P : Program} {k e : TypeId} {fn : Func} {p q : Tmp} {tmps : Array Value} {w : World} {g : Nat} {x : Rw} {v : Value} (h : fn.results = #[.cell p k, .tmp q]) (T : RowTy P k e)
    (hp : tmps.getD p undef = .pointer (some ⟨g, 0, none⟩)) (hr : RowAt w g 0 x) (hv : tmps.getD q undef = v) : (results fn tmps).run P w = .ok (.tuple #[Rw.val x, v]) w := by
  have hp' : tmps[p]?.getD undef = .pointer (some ⟨g, 0, none⟩) := by simpa using hp
  have hv' : tmps[q]?.getD undef = v := by simpa using hv
  simp [results, h, hp', hv', asAddr, run_loadVar_R T hr]
theorem zeroI (w : World) : (zeroValue 3).run Try.prog w = .ok (.int .i64 0) w := by kernel_rfl
theorem exec_lookup_R {P : Program} {k e t ev : TypeId} {w : World} {o : Oper} {a : Act} {b : Nat} {f : Rw → Option Int} {x : Rw} (T : RowTy P k e) (ht : P.underlying t = some (.map k ev)) (hz : ∀ w, (zeroValue ev).run P w = .ok (.int .i64 0) w) (m y : Operand)
    (ho : o.op = .lookup t m y true) (hm : a.eval m = .map (some b)) (hy : a.eval y = Rw.val x) (h : MapR w b f) (hx : Rw.ok x) :
    (execOp a.eval o).run P w = .ok (.value (.tuple #[.int .i64 ((f x).getD 0), .bool (f x).isSome])) w := by
  unfold execOp
  simp only [ho, hm, hy, Sem.run_bind, h.lookup T.A T.he T.hsz ht hz hx, Sem.run_pure, Result.andThen_ok]
theorem idx_nil : (fun _ => none) = idx [] := by funext x; simp [idx]
set_option maxHeartbeats 400000 in
set_option maxRecDepth 100000 in
theorem new_any (ar : Nat) (h1 : ar ≤ 24) (w : World) :
    Calls Try.prog 23 #[.int .i64 ar] w fun e w' => ∃ b pb mb, e = .returned (.tuple #[.pointer (some ⟨b, 0, none⟩), .int .i64 0]) ∧ RelI w.heap.size w' b pb mb (.slice none 0 0) ar 0 [] ∧ Fut w w' := by
  have hmm := @run_makeMap Try.prog
  have e1 : ¬ (ar : Int) < 0 := by omega
  have e2 : ¬ (24 : Int) < ar := by omega
  go_enter Try.func23, Try.ntmps23
  go_wp2
  go_ret2
  have b0 := heap_alloc_new w (.map #[] 0)
  have f1 := Fut.alloc w (.map #[] 0)
  have b1 := heap_alloc_new (w.alloc (.map #[] 0)) (.cells #[Value.slice none 0 0, Value.map (some w.heap.size)] 77)
  have f2 := Fut.alloc (w.alloc (.map #[] 0)) (.cells #[Value.slice none 0 0, Value.map (some w.heap.size)] 77)
  have b2 := heap_alloc_new ((w.alloc (.map #[] 0)).alloc (.cells #[Value.slice none 0 0, Value.map (some w.heap.size)] 77)) (.cells #[Value.int .i64 ar, Value.int .i64 ((0 : Nat) : Int), Value.pointer (some ⟨w.heap.size + 1, 0, none⟩)] 73)
  have f3 := Fut.alloc ((w.alloc (.map #[] 0)).alloc (.cells #[Value.slice none 0 0, Value.map (some w.heap.size)] 77)) (.cells #[Value.int .i64 ar, Value.int .i64 ((0 : Nat) : Int), Value.pointer (some ⟨w.heap.size + 1, 0, none⟩)] 73)
  rw [World.size_alloc] at b1
  rw [World.size_alloc, World.size_alloc] at b2
  have hM := MapR.new w
  refine ⟨w.heap.size + 1 + 1, rfl, ⟨w.heap.size + 1, w.heap.size, b2, ⟨f3.block b1, OwnL.nil, ?_, ⟨by omega, by omega⟩, List.nodup_nil⟩, by omega, h1⟩, (f1.trans f2).trans f3⟩
  rw [← idx_nil]
  exact hM.kept ((Below.block f3 _ (by simp; omega)).trans (Below.block f2 _ (by simp)))
set_option maxHeartbeats 400000 in
set_option maxRecDepth 100000 in
theorem new_bad (ar : Int) (h : ar < 0 ∨ 24 < ar) (w : World) :
    Calls Try.prog 23 #[.int .i64 ar] w fun e w' => e = .returned (.tuple #[.pointer none, .int .i64 1]) ∧ w' = w := by
  go_enter Try.func23, Try.ntmps23
  rcases h with h | h
  · go_wp2
    go_ret2
    exact ⟨rfl, rfl⟩
  · have e1 : ¬ ar < 0 := by omega
    go_wp2
    go_ret2
    exact ⟨rfl, rfl⟩
set_option maxHeartbeats 400000 in
set_option maxRecDepth 100000 in
theorem at_any {B : Nat} {w : World} {b pb mb : Nat} {lv : Value} {ar gone : Nat} {xs : List Rw} (h : RelI B w b pb mb lv ar gone xs) (k : Nat) (hk : k < xs.length) :
    Calls Try.prog 16 #[.pointer (some ⟨b, 0, none⟩), .int .i64 k] w fun e w' => e = .returned (.tuple #[Rw.val xs[k], .int .i64 0]) ∧ Fut w w' := by
  have c0 := cell_at h.blk 0 _ rfl
  have c1 := cell_at h.blk 1 _ rfl
  have c2 := cell_at h.blk 2 _ rfl
  have p0 := cell_at h.pl.blk 0 _ rfl
  have HR := Lib.hid (h.pl.list.rep)
  have HH := Lib.hid (fun W1 (F1 : Fut w W1) => there_any (h.fut F1))
  obtain ⟨A, cap, rfl, hl, hm⟩ := h.pl.form
  obtain ⟨b', off, rfl, hr⟩ := rows_at HR.out hk
  clear h
  go_enter Try.func16, Try.ntmps16
  go_wp2_with fail
  rw [zeros_eq]
  have hN := heap_alloc_new w (.cells (Rw.cells zeroRow).toArray 32)
  have F1 := Fut.alloc w (.cells (Rw.cells zeroRow).toArray 32)
  have hw : w.heap.size < (w.alloc (.cells (Rw.cells zeroRow).toArray 32)).heap.size := by simp
  obtain ⟨W1, hW⟩ : ∃ W1, w.alloc (.cells (Rw.cells zeroRow).toArray 32) = W1 := ⟨_, rfl⟩
  rw [hW] at hN F1 hw ⊢
  clear hW
  refine (HH.out W1 F1).mono ?_
  rintro e w1 ⟨rfl, hw1⟩
  have hw2 := hw1.symm
  subst hw2
  replace c0 := F1.cell c0
  replace c1 := F1.cell c1
  replace c2 := F1.cell c2
  replace p0 := F1.cell p0
  replace hr := hr.fut F1
  have hlt : (k : Int) < xs.length := by omega
  have hng : ¬ (k : Int) < 0 := by omega
  have hge : ¬ (xs.length : Int) ≤ k := by omega
  go_wp2_with (first | (refine wpList_load_R rowTy (wanted_none rfl _) _ rfl rfl hr ?_) | (refine wpList_store_R rowTy (wanted_none rfl _) _ _ rfl rfl rfl hN rfl hr.1 ?_))
  refine bodyPost_ret (results_row rfl rowTy rfl (RowAt.of_block hr.1 (World.putObj_heap_same hw)) (by rfl)) rfl ?_
  exact ⟨rfl, ((Only.fut F1).trans (Only.put (S := fun k => k = w.heap.size) _ _ rfl)).toFut (fun k hk => Nat.le_of_eq hk.symm)⟩
set_option maxHeartbeats 800000 in
set_option maxRecDepth 100000 in
theorem has_any {B : Nat} {w : World} {b pb mb : Nat} {lv : Value} {ar gone : Nat} {xs : List Rw} (h : RelI B w b pb mb lv ar gone xs) (x : Rw) (hx : Rw.ok x) :
    Calls Try.prog 19 #[.pointer (some ⟨b, 0, none⟩), Rw.val x] w fun e w' => e = .returned (.bool (decide (x ∈ xs))) ∧ Fut w w' := by
  have H := Lib.hid h
  have c0 := cell_at h.blk 0 _ rfl
  have c1 := cell_at h.blk 1 _ rfl
  have c2 := cell_at h.blk 2 _ rfl
  have p0 := cell_at h.pl.blk 0 _ rfl
  have p1 := cell_at h.pl.blk 1 _ rfl
  clear h
  unfold Rw.val
  go_enter Try.func19, Try.ntmps19
  go_wp2_with fail
  have hr := RowAt.new w 32 hx
  have F1 := Fut.alloc w (.cells (Rw.cells x).toArray 32)
  obtain ⟨W1, hW⟩ : ∃ W1, w.alloc (.cells (Rw.cells x).toArray 32) = W1 := ⟨_, rfl⟩
  rw [hW] at hr F1 ⊢
  clear hW
  refine (there_any (H.out.fut F1)).mono ?_
  rintro e w1 ⟨rfl, hw1⟩
  have hw2 := hw1.symm
  subst hw2
  replace c2 := F1.cell c2
  replace p1 := F1.cell p1
  go_wp2_with fail
  refine wp_graph 14 [.d, .d, .d, .d, .d, .d, .d, .d, .d, .d, .d, .d, .d, .d] (by kernel_rfl) (by kernel_rfl) (by kernel_rfl) ?_
  simp only [List.take_succ_cons, List.take_zero, List.drop_succ_cons, List.drop_zero, Exs]
  iterate 14 apply Exists.intro
  apply Run.valG (wanted_none rfl _)
  · intro w1 h1 hk
    have q2 := h1.cell c2; have q1 := h1.cell p1; have hg := (Fut.drew _).trans h1
    have hcw := fun b o => Below.cell (p := ⟨b, o, none⟩) h1
    go_simp; rfl
  simp only [Act.put, List.setIfInBounds_toArray, List.set_cons_succ, List.set_cons_zero, List.nil_append, List.cons_append]
  apply Run.valG (wanted_none rfl _)
  · intro w1 h1 hk
    have q2 := h1.cell c2; have q1 := h1.cell p1; have hg := (Fut.drew _).trans h1
    have hcw := fun b o => Below.cell (p := ⟨b, o, none⟩) h1
    go_simp; rfl
  simp only [Act.put, List.setIfInBounds_toArray, List.set_cons_succ, List.set_cons_zero, List.nil_append, List.cons_append]
  apply Run.valG (wanted_none rfl _)
  · intro w1 h1 hk
    have q2 := h1.cell c2; have q1 := h1.cell p1; have hg := (Fut.drew _).trans h1
    have hcw := fun b o => Below.cell (p := ⟨b, o, none⟩) h1
    go_simp; rfl
  simp only [Act.put, List.setIfInBounds_toArray, List.set_cons_succ, List.set_cons_zero, List.nil_append, List.cons_append]
  apply Run.valG (wanted_none rfl _)
  · intro w1 h1 hk
    have q2 := h1.cell c2; have q1 := h1.cell p1; have hg := (Fut.drew _).trans h1
    have hcw := fun b o => Below.cell (p := ⟨b, o, none⟩) h1
    go_simp; rfl
  simp only [Act.put, List.setIfInBounds_toArray, List.set_cons_succ, List.set_cons_zero, List.nil_append, List.cons_append]
  apply Run.valG (wanted_none rfl _)
  · intro w1 h1 hk
    have q2 := h1.cell c2; have q1 := h1.cell p1; have hg := (Fut.drew _).trans h1
    have hcw := fun b o => Below.cell (p := ⟨b, o, none⟩) h1
    go_simp; rfl
  simp only [Act.put, List.setIfInBounds_toArray, List.set_cons_succ, List.set_cons_zero, List.nil_append, List.cons_append]
  apply Run.valG (wanted_none rfl _)
  · intro w1 h1 hk
    have q2 := h1.cell c2; have q1 := h1.cell p1; have hg := (Fut.drew _).trans h1
    have hcw := fun b o => Below.cell (p := ⟨b, o, none⟩) h1
    go_simp; rfl
  simp only [Act.put, List.setIfInBounds_toArray, List.set_cons_succ, List.set_cons_zero, List.nil_append, List.cons_append]
  apply Run.valG (wanted_none rfl _)
  · intro w1 h1 hk
    have q2 := h1.cell c2; have q1 := h1.cell p1; have hg := (Fut.drew _).trans h1
    have hcw := fun b o => Below.cell (p := ⟨b, o, none⟩) h1
    go_simp; rfl
  simp only [Act.put, List.setIfInBounds_toArray, List.set_cons_succ, List.set_cons_zero, List.nil_append, List.cons_append]
  apply Run.valG (wanted_none rfl _)
  · intro w1 h1 hk
    have q2 := h1.cell c2; have q1 := h1.cell p1; have hg := (Fut.drew _).trans h1
    have hcw := fun b o => Below.cell (p := ⟨b, o, none⟩) h1
    exact exec_load_R rowTy _ rfl rfl (hr.fut hg)
  simp only [Act.put, List.setIfInBounds_toArray, List.set_cons_succ, List.set_cons_zero, List.nil_append, List.cons_append]
  apply Run.valG (wanted_none rfl _)
  · intro w1 h1 hk
    have q2 := h1.cell c2; have q1 := h1.cell p1; have hg := (Fut.drew _).trans h1
    have hcw := fun b o => Below.cell (p := ⟨b, o, none⟩) h1
    exact exec_lookup_R rowTy Try.underlying75 zeroI _ _ rfl rfl rfl (H.out.fut (F1.trans hg)).pl.map hx
  simp only [Act.put, List.setIfInBounds_toArray, List.set_cons_succ, List.set_cons_zero, List.nil_append, List.cons_append]
  apply Run.valG (wanted_none rfl _)
  · intro w1 h1 hk
    have q2 := h1.cell c2; have q1 := h1.cell p1; have hg := (Fut.drew _).trans h1
    have hcw := fun b o => Below.cell (p := ⟨b, o, none⟩) h1
    go_simp; rfl
  simp only [Act.put, List.setIfInBounds_toArray, List.set_cons_succ, List.set_cons_zero, List.nil_append, List.cons_append]
  apply Run.valG (wanted_none rfl _)
  · intro w1 h1 hk
    have q2 := h1.cell c2; have q1 := h1.cell p1; have hg := (Fut.drew _).trans h1
    have hcw := fun b o => Below.cell (p := ⟨b, o, none⟩) h1
    go_simp; rfl
  simp only [Act.put, List.setIfInBounds_toArray, List.set_cons_succ, List.set_cons_zero, List.nil_append, List.cons_append]
  apply Run.valG (wanted_none rfl _)
  · intro w1 h1 hk
    have q2 := h1.cell c2; have q1 := h1.cell p1; have hg := (Fut.drew _).trans h1
    have hcw := fun b o => Below.cell (p := ⟨b, o, none⟩) h1
    go_simp; rfl
  simp only [Act.put, List.setIfInBounds_toArray, List.set_cons_succ, List.set_cons_zero, List.nil_append, List.cons_append]
  apply Run.valG (wanted_none rfl _)
  · intro w1 h1 hk
    have q2 := h1.cell c2; have q1 := h1.cell p1; have hg := (Fut.drew _).trans h1
    have hcw := fun b o => Below.cell (p := ⟨b, o, none⟩) h1
    go_simp; rfl
  simp only [Act.put, List.setIfInBounds_toArray, List.set_cons_succ, List.set_cons_zero, List.nil_append, List.cons_append]
  apply Run.valG (wanted_none rfl _)
  · intro w1 h1 hk
    have q2 := h1.cell c2; have q1 := h1.cell p1; have hg := (Fut.drew _).trans h1
    have hcw := fun b o => Below.cell (p := ⟨b, o, none⟩) h1
    go_simp; rfl
  simp only [Act.put, List.setIfInBounds_toArray, List.set_cons_succ, List.set_cons_zero, List.nil_append, List.cons_append]
  apply Run.done
  intro w2 h2 hk
  clear hk
  go_wp2
  go_ret
  exact ⟨by rw [← idx_isSome]; rfl, F1.trans ((Fut.drew _).trans h2)⟩
end Go.Proofs.Ytcekphjcmippoaa
/- slices.Min; is it a row of the arity? -/
namespace Go.Proofs.Ytcekphjcmippoaa
open Go.RowKit Go.WideMaps
set_option linter.unusedSimpArgs false
set_option linter.unusedVariables false

/-- Which rows may be, at an arity. -/
def rightP (ar : Nat) (x : Rw) : Bool := (x.all fun a => decide (0 ≤ a)) && (x.drop ar).all fun a => decide (a = 0)
def minI (a b : Int) : Int := if b < a then b else a
theorem wf_i32 {a : Int} (h : (Lit.int .i32 a).wf = true) : -2147483648 ≤ a ∧ a ≤ 2147483647 := by simpa [Lit.wf, IntKind.min, IntKind.max, IntKind.signed, IntKind.bits] using h

set_option maxHeartbeats 800000 in
set_option maxRecDepth 100000 in
theorem min_any (xs : List Int) (h0 : xs ≠ []) (b off cap : Nat) (hl : xs.length ≤ 100) (hc : xs.length ≤ cap) (hwf : ∀ a ∈ xs, (Lit.int .i32 a).wf = true) (w : World) (hx : ∀ k (h : k < xs.length), w.cell? ⟨b, off + k, none⟩ = some (.int .i32 xs[k])) :
    Calls Try.prog 57 #[.slice (some ⟨b, off, none⟩) xs.length cap] w fun e w' => (∃ m, e = .returned (.int .i32 m) ∧ (m < 0 ↔ ∃ a ∈ xs, a < 0)) ∧ w' = w := by
  have hn : 0 < xs.length := List.length_pos_iff.2 h0
  have x0 := hx 0 hn
  rw [Nat.add_zero] at x0
  have hx' := Lib.hid hx
  have hwf' := Lib.hid hwf
  have h0' := Lib.hid h0
  clear hx hwf h0
  have hlt : ¬ (xs.length : Int) < 1 := by omega
  have hb : (0 : Int) ≤ 0 ∧ (0 : Int) < xs.length := by omega
  go_enter Try.func57, Try.ntmps57
  go_wp2
  go_loopw [3, 4] (fun m i wr => ∃ (k : Nat) (mv : Int), 1 ≤ k ∧ k ≤ xs.length ∧ i = .int .i64 k ∧ m = .int .i32 mv ∧ Hid (mv < 0 ↔ ∃ a ∈ xs.take k, a < 0) ∧ wr = w) (fun _ i _ => xs.length - (intOf i).toNat)
  case atStart => exact ⟨1, xs[0], Nat.le_refl _, hn, rfl, rfl, Lib.hid (by cases xs with | nil => simp at hn | cons a r => simp), by trivial⟩
  case round =>
    obtain ⟨k, mv, h1, hk, rfl, rfl, hm, rfl⟩ := hrel
    by_cases hlt : k < xs.length
    · have xk := hx'.out k hlt
      have hb1 : (0 : Int) ≤ k ∧ (k : Int) < xs.length := by omega
      go_wp2
      go_roundw
      case rel =>
        refine ⟨k + 1, if xs[k] < mv then xs[k] else mv, by omega, by omega, by go_num, by rfl, Lib.hid ?_, by trivial⟩
        · have hT : xs.take (k + 1) = xs.take k ++ [xs[k]] := by rw [List.take_succ_eq_append_getElem hlt]
          have e1 : (∃ a ∈ xs.take (k + 1), a < 0) ↔ ((∃ a ∈ xs.take k, a < 0) ∨ xs[k] < 0) := by
            rw [hT]
            constructor
            · rintro ⟨a, ha, h⟩
              rcases List.mem_append.1 ha with ha | ha
              · exact .inl ⟨a, ha, h⟩
              · rw [List.mem_singleton] at ha; subst ha; exact .inr h
            · rintro (⟨a, ha, h⟩ | h)
              · exact ⟨a, List.mem_append_left _ ha, h⟩
              · exact ⟨_, List.mem_append_right _ (by simp), h⟩
          rw [e1, ← hm.out]
          split <;> omega
      case measure => simp [intOf] <;> omega
    · obtain rfl : k = xs.length := by omega
      go_wp2
      go_ret
      have := hm.out
      rw [List.take_length] at this
      exact ⟨⟨mv, rfl, this⟩, rfl⟩
def clr (n : Nat) (x : Rw) : Rw := List.replicate n 0 ++ x.drop n
theorem clr_ok {n : Nat} {x : Rw} (hx : Rw.ok x) (hn : n ≤ 24) : Rw.ok (clr n x) := ⟨by simp [clr, hx.1]; omega, fun a ha => by
  rcases List.mem_append.1 ha with ha | ha
  · rw [List.eq_of_mem_replicate ha]; decide
  · exact hx.2 a (List.mem_of_mem_drop ha)⟩
theorem clr_zero {n : Nat} {x : Rw} (hx : Rw.ok x) (hn : n ≤ 24) : clr n x = zeroRow ↔ ((x.drop n).all fun a => decide (a = 0)) = true := by
  have hz : zeroRow = List.replicate n 0 ++ List.replicate (24 - n) (0 : Int) := by
    rw [List.replicate_append_replicate, show n + (24 - n) = 24 by omega]; rfl
  rw [hz]
  unfold clr
  rw [List.append_cancel_left_eq, List.eq_replicate_iff, List.all_eq_true]
  simp [hx.1]
theorem putObj_same {w : World} {g : Nat} {o : Obj} (h : w.heap[g]? = some o) : w.putObj g o = w := by
  unfold World.putObj
  have : w.heap.setIfInBounds g o = w.heap := by
    have hl := (Array.getElem?_eq_some_iff.1 h).1
    refine Array.ext_getElem? fun i => ?_
    by_cases hi : i = g
    · subst hi; rw [h]; simp [hl]
    · rw [Array.getElem?_setIfInBounds_ne (Ne.symm hi)]
  rw [this]
theorem zeroCells_i32 (n : Nat) : (Builtin.zeroCells (#[Value.int .i32 0]) n).toList = List.replicate n (.int .i32 0) := by
  unfold Builtin.zeroCells
  simp only [List.size_toArray, List.length_cons, List.length_nil, Nat.zero_add, Nat.mul_one, Nat.mod_one, Array.toList_map, Array.toList_range]
  rw [List.eq_replicate_iff]
  simp
theorem exec_clear_R {P : Program} {t k e : TypeId} {w : World} {o : Oper} {a : Act} {g n cap : Nat} {x : Rw} (T : RowTy P k e) (ht : P.underlying t = some (.slice e)) (hz : ∀ w, (zeroValue e).run P w = .ok (.int .i32 0) w) (y : Operand)
    (ho : o.op = .call { callee := .builtin .clear, args := #[y], argTypes := #[t] }) (hy : a.eval y = .slice (some ⟨g, 0, none⟩) n cap) (hb : w.heap[g]? = some (.cells (Rw.cells x).toArray k (0, 0))) (hx : Rw.ok x) (hn : n ≤ 24) :
    (execOp a.eval o).run P w = .ok (.value (.tuple #[])) (w.putObj g (.cells (Rw.cells (clr n x)).toArray k (0, 0))) := by
  have hl := Rw.cells_len hx
  have hrun : (Builtin.clear_ #[t] o.type #[.slice (some ⟨g, 0, none⟩) n cap]).run P w = .ok (.tuple #[]) (w.putObj g (.cells (Rw.cells (clr n x)).toArray k (0, 0))) := by
    cases n with
    | zero =>
      have e1 : clr 0 x = x := by simp [clr]
      rw [e1, putObj_same hb]
      simp [Builtin.clear_, run_underlying ht]
    | succ n =>
      have h1 := run_storeCells_cells (P := P) g 0 (List.replicate (n + 1) (.int .i32 0)) 0 w (fun j hj => by
        rw [List.length_replicate] at hj
        simp [World.cell?, hb]; omega) (fun j hj => by simp [World.frozen?, hb]) (fun v hv => by rw [List.eq_of_mem_replicate hv]; rfl)
      obtain ⟨arr', h2, h3, h4⟩ := setCells_put (List.replicate (n + 1) (.int .i32 0)) 0 w _ hb
      have e1 : arr' = (Rw.cells (clr (n + 1) x)).toArray := by
        refine Array.ext_getElem? fun j => ?_
        rw [h4]
        simp only [Rw.cells, clr, List.map_append, List.map_replicate, List.getElem?_toArray, List.length_replicate, Nat.zero_add, Nat.sub_zero, List.size_toArray, List.length_map, hx.1]
        by_cases hj : j < n + 1
        · rw [if_pos (by omega), List.getElem?_append_left (by simpa using hj)]
        · rw [if_neg (by omega), List.getElem?_append_right (by simpa using hj)]
          simp only [List.length_replicate, List.map_drop, List.getElem?_drop]
          rw [show n + 1 + (j - (n + 1)) = j by omega]
      simp only [Nat.add_zero] at h1
      rw [h2, e1] at h1
      simp [Builtin.clear_, run_underlying ht, hz, Value.cells, zeroCells_i32, h1]
  unfold execOp
  simp only [ho, resolve, invoke, builtin, Sem.run_bind, Sem.run_pure, Result.andThen_ok, List.map_toArray, List.map_cons, List.map_nil, hy, hrun]
theorem zeroS (w : World) : (zeroValue 30).run Try.prog w = .ok (.int .i32 0) w := by kernel_rfl
theorem right_eq {n : Nat} {x : Rw} {m : Int} (hx : Rw.ok x) (hn : n ≤ 24) (hm : m < 0 ↔ ∃ a ∈ x, a < 0) : rightP n x = (decide (¬ m < 0) && decide (clr n x = zeroRow)) := by
  unfold rightP
  have h1 : (x.all fun a => decide (0 ≤ a)) = decide (¬ m < 0) := by
    rw [Bool.eq_iff_iff, List.all_eq_true, decide_eq_true_eq, hm]
    constructor
    · rintro h ⟨a, ha, h2⟩
      have := of_decide_eq_true (h a ha); omega
    · intro h a ha
      exact decide_eq_true (by
        by_cases h' : a < 0
        · exact absurd ⟨a, ha, h'⟩ h
        · omega)
  have h2 : ((x.drop n).all fun a => decide (a = 0)) = decide (clr n x = zeroRow) := by
    rw [Bool.eq_iff_iff, decide_eq_true_eq]; exact (clr_zero hx hn).symm
  rw [h1, h2]
theorem exec_eql_R {P : Program} {k e : TypeId} {w : World} {o : Oper} {a : Act} {x y : Rw} (T : RowTy P k e) (hg : P.eqGuardType P.depth k = false) (p q : Operand) (kt : TypeId)
    (ho : o.op = .binOp .eql k p q kt) (hp : a.eval p = Rw.val x) (hq : a.eval q = Rw.val y) (hx : Rw.ok x) (hy : Rw.ok y) : (execOp a.eval o).run P w = .ok (.value (.bool (decide (x = y)))) w := by
  have h1 := run_eql_row T.A T.he T.hsz hx hy w
  unfold execOp
  unfold Rw.val at h1 hp hq
  simp only [ho, hp, hq, Sem.run_bind, run_eqGuard_agg w .eql k p q _ _ hg, Result.andThen_ok, h1, Sem.run_pure]
theorem exec_neq_R {P : Program} {k e : TypeId} {w : World} {o : Oper} {a : Act} {x y : Rw} (T : RowTy P k e) (hg : P.eqGuardType P.depth k = false) (p q : Operand) (kt : TypeId)
    (ho : o.op = .binOp .neq k p q kt) (hp : a.eval p = Rw.val x) (hq : a.eval q = Rw.val y) (hx : Rw.ok x) (hy : Rw.ok y) : (execOp a.eval o).run P w = .ok (.value (.bool (!decide (x = y)))) w := by
  have h1 := run_neq_row T.A T.he T.hsz hx hy w
  unfold execOp
  unfold Rw.val at h1 hp hq
  simp only [ho, hp, hq, Sem.run_bind, run_eqGuard_agg w .neq k p q _ _ hg, Result.andThen_ok, h1, Sem.run_pure]
theorem noGuard : Try.prog.eqGuardType Try.prog.depth 32 = false := by kernel_rfl
set_option maxHeartbeats 800000 in
set_option maxRecDepth 100000 in
theorem right_any {w : World} {b n : Nat} {gone : Nat} {p : Value} (hb : w.heap[b]? = some (.cells #[.int .i64 n, .int .i64 gone, p] 73 (0, 0))) (hn : n ≤ 24) (x : Rw) (hx : Rw.ok x) :
    Calls Try.prog 33 #[.pointer (some ⟨b, 0, none⟩), Rw.val x] w fun e w' => e = .returned (.bool (rightP n x)) ∧ Fut w w' := by
  have c0 := cell_at hb 0 _ rfl
  have hlb := (Array.getElem?_eq_some_iff.1 hb).1
  clear hb
  have X := Lib.hid hx
  have hxl := hx.1
  clear hx
  unfold Rw.val
  go_enter Try.func33, Try.ntmps33
  go_wp2_with fail
  have hr := RowAt.new w 32 X.out
  have F1 := Fut.alloc w (.cells (Rw.cells x).toArray 32)
  obtain ⟨W1, hW⟩ : ∃ W1, w.alloc (.cells (Rw.cells x).toArray 32) = W1 := ⟨_, rfl⟩
  rw [hW] at hr F1 ⊢
  clear hW
  have c0a := fun o => (F1.trans (Fut.alloc W1 o)).cell c0
  have hMin := min_any x (fun e => by rw [e] at hxl; simp at hxl) w.heap.size 0 24 (by omega) (by omega) X.out.2 W1 (fun k hk => by
    refine hr.2 k _ ?_
    simp [Rw.cells, hk])
  rw [hxl] at hMin
  refine hMin.mono ?_
  rintro e w1 ⟨⟨m, rfl, hm⟩, hw1⟩
  have hw2 := hw1.symm
  subst hw2
  have hR := Lib.hid (right_eq X.out hn hm)
  clear hm
  by_cases hm0 : m < 0
  · go_wp2
    go_ret
    exact ⟨by rw [hR.out, decide_eq_false (by omega : ¬ (0 ≤ m))]; rfl, F1⟩
  · have hn1 : (0 : Int) ≤ n := by omega
    have hn2 : (n : Int) ≤ 24 := by omega
    have hX := X.out
    have hN := heap_alloc_new W1 (.cells (Rw.cells x).toArray 32)
    have hr2 := RowAt.new W1 32 (clr_ok (n := n) hX hn)
    go_wp2_with (first | (refine wpList_load_R rowTy (wanted_none rfl _) _ rfl rfl hr ?_) | (refine wpList_load_R rowTy (wanted_none rfl _) _ rfl rfl hr2 ?_) | (refine wpList_store_new rowTy (wanted_none rfl _) _ _ rfl rfl rfl rfl hX ?_) | (refine wpList_of_run (wanted_none rfl _) (exec_clear_R rowTy Try.underlying87 zeroS _ rfl rfl hN hX hn) ?_; rw [putObj_alloc]) | (refine wpList_of_run (wanted_none rfl _) (exec_eql_R rowTy noGuard _ _ _ rfl rfl (show _ = Rw.val zeroRow from rfl) (clr_ok hX hn) zeroRow_ok) ?_))
    go_ret
    exact ⟨by rw [hR.out, decide_eq_true (by omega : 0 ≤ m)]; rfl, F1.trans (Fut.alloc _ _)⟩
end Go.Proofs.Ytcekphjcmippoaa
