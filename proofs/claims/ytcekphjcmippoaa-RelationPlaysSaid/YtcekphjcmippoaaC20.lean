/- PairA, BothE -/
import Derived.Test.YtcekphjcmippoaaC19
/- Two clones side by side: linked, laid into a both. -/
namespace Go.Proofs.Ytcekphjcmippoaa
open Go.RowKit Go.WideMaps
set_option linter.unusedSimpArgs false
set_option linter.unusedVariables false

section
variable {B : Nat} {e : TypeId} {w w' : World} {v : Value} {xs : List Rw}
theorem OwnL.rowTyped (h : OwnL 24 B e RR w v xs) : ∀ k, v.ownBlock = some k → ∃ arr, w.heap[k]? = some (.cells arr e (0, 0)) := by
  intro k hk
  obtain ⟨css, h1, h2, h3, h4⟩ := h
  rcases h4 with ⟨rfl, _⟩ | ⟨g, cap, cur, rfl, a2, a3, _⟩
  · cases hk
  · simp only [Value.ownBlock, Option.some.injEq] at hk
    subst hk
    exact ⟨cur, a3⟩
theorem OwnL.low {B' : Nat} (h : OwnL 24 B e RR w v xs) (hB : B' ≤ B) : OwnL 24 B' e RR w v xs := by
  obtain ⟨css, h1, h2, h3, h4⟩ := h
  refine ⟨css, h1, h2, h3, ?_⟩
  rcases h4 with h4 | ⟨g, cap, cur, a1, a2, a3⟩
  · exact .inl h4
  · exact .inr ⟨g, cap, cur, a1, Nat.le_trans hB a2, a3⟩
end
/-- No both lies there. -/
def NB (w : World) (k : Nat) : Prop := ∀ arr fr, w.heap[k]? ≠ some (.cells arr 60 fr)
section
variable {B B' : Nat} {w w' W : World} {p q : Option Addr} {S : Option RSt} {F G : Nat → Prop} {x v : Value}
theorem NB.fut {k : Nat} (h : NB w k) (hk : k < w.heap.size) (hf : Fut w w') : NB w' k := fun arr fr he => by
  have h2 : w.heap[k]? = some w.heap[k] := Array.getElem?_eq_getElem hk
  have h3 := hf.block h2
  rw [he] at h3
  injection h3 with h3
  exact h arr fr (by rw [h2, ← h3])
theorem T_tight (h : TAt B w p S F) (hB : B' ≤ B) : ∃ F', TAt B' w p S F' ∧ (∀ k, F' k → F k) ∧ ∀ k, F' k → NB w k := by
  have := h.holds
  cases S with
  | none =>
    refine ⟨fun k => p = some ⟨k, 0, none⟩, ⟨⟨this.1, fun b hb => hb⟩, fun k hk => h.lt k (this.2 k hk)⟩, fun k hk => this.2 k hk, fun k hk arr fr he => ?_⟩
    rcases this.1 with h1 | ⟨b, h1, h2⟩
    · rw [h1] at hk; cases hk
    · have hk' : p = some ⟨k, 0, none⟩ := hk
      rw [h1] at hk'
      injection hk' with e1
      injection e1 with e2
      subst e2
      rw [h2] at he
      injection he with he
      injection he with _ he _
      revert he
      decide
  | some s =>
    obtain ⟨b, pb, mb, lv, h1, h2, h3⟩ := this
    refine ⟨foot b pb mb lv, ⟨⟨b, pb, mb, lv, h1, ⟨h2.blk, ⟨h2.pl.blk, h2.pl.list.low hB, h2.pl.map, ⟨Nat.le_trans hB h2.pl.base.1, Nat.le_trans hB h2.pl.base.2⟩, h2.pl.nodup⟩, Nat.le_trans hB h2.base, h2.wide⟩, fun k hk => hk⟩, h2.lt⟩, h3, fun k hk arr fr he => ?_⟩
    rcases hk with rfl | rfl | rfl | hk
    · rw [h2.blk] at he
      injection he with he
      injection he with _ he _
      revert he
      decide
    · rw [h2.pl.blk] at he
      injection he with he
      injection he with _ he _
      revert he
      decide
    · obtain ⟨es, c, hm, _⟩ := h2.pl.map
      rw [hm] at he
      injection he with he
      cases he
    · obtain ⟨arr', ha⟩ := h2.pl.list.rowTyped k hk
      rw [ha] at he
      injection he with he
      injection he with _ he _
      revert he
      decide
theorem D_tight (h : DAt B w p S F) (hB : B' ≤ B) : ∃ F', DAt B' w p S F' ∧ (∀ k, F' k → F k) ∧ ∀ k, F' k → NB w k := by
  have := h.holds
  cases S with
  | none => exact ⟨fun _ => False, ⟨this, fun k hk => hk.elim⟩, fun k hk => hk.elim, fun k hk => hk.elim⟩
  | some s =>
    obtain ⟨b, u, h1, h2, h3, h4, h5⟩ := this
    refine ⟨rfoot b u, ⟨⟨b, u, h1, ⟨h2.blk, h2.list.low hB, h2.sep, Nat.le_trans hB h2.base⟩, h3, h4, fun k hk => hk⟩, h2.lt⟩, h5, fun k hk arr fr he => ?_⟩
    rcases hk with rfl | hk
    · rw [h2.blk] at he
      injection he with he
      injection he with _ he _
      revert he
      decide
    · obtain ⟨arr', ha⟩ := h2.list.rowTyped k hk
      rw [ha] at he
      injection he with he
      injection he with _ he _
      revert he
      decide
/-- A clone of the program's. -/
def ClT (B : Nat) (W : World) (S : Option RSt) (v : Value) (w : World) : Prop := ∃ p F, v = .pointer p ∧ TAt B w p (cloneS S) F ∧ (∀ k, F k → W.heap.size ≤ k ∧ NB w k) ∧ (p = none ↔ S = none)
theorem ClT.fut (h : ClT B W S v w) (hf : Fut w w') : ClT B W S v w' := by
  obtain ⟨p, F, rfl, h1, h2, h3⟩ := h
  exact ⟨p, F, rfl, h1.fut hf, fun k hk => ⟨(h2 k hk).1, (h2 k hk).2.fut (h1.lt k hk) hf⟩, h3⟩
def Pair (B : Nat) (W : World) (S : Option RSt) (w : World) (p q : Option Addr) (F1 F2 : Nat → Prop) : Prop :=
  TAt B w p (cloneS S) F1 ∧ DAt B w q (cloneS S) F2 ∧ (∀ k, F1 k → ¬ F2 k) ∧ (∀ k, F1 k ∨ F2 k → W.heap.size ≤ k ∧ NB w k) ∧ (p = none ↔ S = none) ∧ (q = none ↔ S = none)
theorem Pair.fut {F1 F2 : Nat → Prop} (h : Pair B W S w p q F1 F2) (hf : Fut w w') : Pair B W S w' p q F1 F2 := by
  obtain ⟨h1, h2, h3, h4, h5⟩ := h
  exact ⟨h1.fut hf, h2.fut hf, h3, fun k hk => ⟨(h4 k hk).1, (h4 k hk).2.fut (hk.elim (h1.lt k) (h2.lt k)) hf⟩, h5⟩
def Linked (B : Nat) (W : World) (S : Option RSt) (x v : Value) (w : World) : Prop := ∃ p q F1 F2, x = .pointer p ∧ v = .pointer q ∧ Pair B W S w p q F1 F2
theorem Linked.fut (h : Linked B W S x v w) (hf : Fut w w') : Linked B W S x v w' := by
  obtain ⟨p, q, F1, F2, e1, e2, h⟩ := h
  exact ⟨p, q, F1, F2, e1, e2, h.fut hf⟩
def bothCells (p q : Option Addr) : Array Value := #[.pointer p, .pointer q, .nilFunc, .int .i64 0, .int .i64 0]
def bothV (p q : Option Addr) : Value := .agg (bothCells p q)
def Joined (B : Nat) (W : World) (S : Option RSt) (v : Value) (w : World) : Prop := ∃ p q F1 F2, v = bothV p q ∧ Pair B W S w p q F1 F2
theorem Joined.fut (h : Joined B W S v w) (hf : Fut w w') : Joined B W S v w' := by
  obtain ⟨p, q, F1, F2, e1, h⟩ := h
  exact ⟨p, q, F1, F2, e1, h.fut hf⟩
theorem clT_of (h : TAt w.heap.size w' p (cloneS S) (made w w')) (hW : W.heap.size ≤ w.heap.size) (hB : B ≤ w.heap.size) (hn : p = none ↔ S = none) : ClT B W S (.pointer p) w' := by
  obtain ⟨F', h1, h2, h3⟩ := T_tight h hB
  exact ⟨p, F', rfl, h1, fun k hk => ⟨Nat.le_trans hW (h2 k hk).1, h3 k hk⟩, hn⟩
theorem linked_of (hx : ClT B W S x w) (h : DAt w.heap.size w' q (cloneS S) (made w w')) (hf : Fut w w') (hW : W.heap.size ≤ w.heap.size) (hB : B ≤ w.heap.size) (hn : q = none ↔ S = none) : Linked B W S x (.pointer q) w' := by
  obtain ⟨p, F, rfl, h1, h2, h3⟩ := hx
  obtain ⟨F', k1, k2, k3⟩ := D_tight h hB
  refine ⟨p, q, F, F', rfl, rfl, h1.fut hf, k1, fun k a b => ?_, fun k hk => ?_, h3, hn⟩
  · have := h1.lt k a
    have := (k2 k b).1
    omega
  · rcases hk with hk | hk
    · exact ⟨(h2 k hk).1, (h2 k hk).2.fut (h1.lt k hk) hf⟩
    · exact ⟨Nat.le_trans hW (k2 k hk).1, k3 k hk⟩
/-- The pair laid into a both. -/
theorem both_of {F1 F2 : Nat → Prop} {b : Nat} {arr : Array Value} (h : Pair B W S w p q F1 F2) (hb : w.heap[b]? = some (.cells arr 60 (0, 0))) (hB : B ≤ w.heap.size) :
    BothAt B (w.putObj b (.cells (bothCells p q) 60 (0, 0))) b 0 (cloneS S) (fun k => F1 k ∨ F2 k) p q .nilFunc 0 0 F1 F2 := by
  obtain ⟨h1, h2, h3, h4, h5⟩ := h
  have hlt : b < w.heap.size := (Array.getElem?_eq_some_iff.1 hb).1
  have hne : ∀ k, F1 k ∨ F2 k → ¬ k = b := fun k hk e => by subst e; exact (h4 k hk).2 _ _ hb
  have O1 : Only (fun k => k = b) w (w.putObj b (.cells (bothCells p q) 60 (0, 0))) := Only.put (S := fun k => k = b) _ _ rfl
  refine ⟨⟨_, _, World.putObj_heap_same hlt, rfl, rfl, rfl, rfl, rfl⟩, h1.only O1 fun k hk => hne k (.inl hk), h2.only O1 fun k hk => hne k (.inr hk), fun k hk => .inl hk, fun k hk => .inr hk, h3, fun hk => hne b hk rfl, fun k hk => Nat.lt_of_lt_of_le (hk.elim (h1.lt k) (h2.lt k)) O1.size, Nat.le_trans hB O1.size, .inl rfl⟩
end
theorem exec_alloc_both {w : World} {o : Oper} {a : Act} (ho : o.op = .alloc 60) : (execOp a.eval o).run Try.prog w = .ok (.value (.pointer (some ⟨w.heap.size, 0, none⟩))) (w.alloc (.cells (bothCells none none) 60)) := by
  unfold execOp
  rw [ho]
  kernel_rfl
theorem exec_build_both {op : Oper} {a : Act} {w : World} {p q : Option Addr} {x y : Operand} (ho : op.op = .build 60 #[(0, x), (1, y)]) (hx : a.eval x = .pointer p) (hy : a.eval y = .pointer q) :
    (execOp a.eval op).run Try.prog w = .ok (.value (bothV p q)) w := by
  have hr : (Instr.build 60 #[(0, .pointer p), (1, .pointer q)]).run Try.prog w = .ok (bothV p q) w := by kernel_rfl
  unfold execOp
  simp only [ho, List.map_toArray, List.map_cons, List.map_nil, hx, hy, hr, Sem.run_bind, Sem.run_pure, Result.andThen_ok]
theorem exec_build_bothT {op : Oper} {a : Act} {w : World} {p : Option Addr} {x : Operand} (ho : op.op = .build 60 #[(0, x)]) (hx : a.eval x = .pointer p) :
    (execOp a.eval op).run Try.prog w = .ok (.value (bothV p none)) w := by
  have hr : (Instr.build 60 #[(0, .pointer p)]).run Try.prog w = .ok (bothV p none) w := by kernel_rfl
  unfold execOp
  simp only [ho, List.map_toArray, List.map_cons, List.map_nil, hx, hr, Sem.run_bind, Sem.run_pure, Result.andThen_ok]
theorem exec_store_both {op : Oper} {a : Act} {w : World} {b : Nat} {p q : Option Addr} {t : TypeId} {arr : Array Value} (x y : Operand) (ho : op.op = .store 60 x y) (hx : a.eval x = .pointer (some ⟨b, 0, none⟩)) (hy : a.eval y = bothV p q) (hb : w.heap[b]? = some (.cells arr t (0, 0))) (hs : arr.size = 5) :
    (execOp a.eval op).run Try.prog w = .ok .skip (w.putObj b (.cells (bothCells p q) t (0, 0))) := by
  have hi : (Try.prog.info? 60).map (·.size) = some 5 := by kernel_rfl
  have h1 := run_storeVar_mid (P := Try.prog) w b 0 60 (bothCells p q) (fun j hj => by
    have hj2 : j < 5 := hj
    have hj' : j < arr.size := by omega
    refine ⟨?_, ?_⟩
    · rw [Nat.zero_add]; simp [World.cell?, hb, hj']
    · simp [World.frozen?, hb]) (by rw [hi]; rfl) (all_oneCell_toArray (cs := [.pointer p, .pointer q, .nilFunc, .int .i64 0, .int .i64 0]) fun v hv => by
    simp only [List.mem_cons, List.not_mem_nil, or_false] at hv
    rcases hv with rfl | rfl | rfl | rfl | rfl <;> rfl)
  obtain ⟨arr', h2, h3, h4⟩ := setCells_put (bothCells p q).toList 0 w arr hb
  have e1 : arr' = bothCells p q := by
    refine Array.ext_getElem? fun j => ?_
    rw [h4]
    by_cases hj : j < 5
    · rw [if_pos (by rw [hs]; exact ⟨Nat.zero_le _, (by simpa [bothCells] using hj), hj⟩)]; simp
    · rw [if_neg (by omega)]
      rw [Array.getElem?_eq_none (by omega), Array.getElem?_eq_none (by simp [bothCells]; omega)]
  rw [h2, e1] at h1
  unfold execOp
  simp only [ho, hx, hy, bothV, Instr.storeAt, Instr.sureAddr, Sem.run_bind, Sem.run_pure, Result.andThen_ok, h1]
theorem wpList_store_both {ops : Array Oper} {rest : List Oper} {Q : Exit → Act → World → Prop} {op : Oper} {a : Act} {w : World} (hgd : Region.wanted op (yielded ops a.tmps) = true) {b : Nat} {p q : Option Addr} {t : TypeId} {arr : Array Value} (x y : Operand) (ho : op.op = .store 60 x y) (hx : a.eval x = .pointer (some ⟨b, 0, none⟩)) (hy : a.eval y = bothV p q) (hb : w.heap[b]? = some (.cells arr t (0, 0))) (hs : arr.size = 5)
    (h : wpList Try.prog ops Q rest (a.put op.dst undef) (w.putObj b (.cells (bothCells p q) t (0, 0)))) : wpList Try.prog ops Q (op :: rest) a w :=
  wpList_of_skip hgd (exec_store_both x y ho hx hy hb hs) h
theorem did_then {B : Nat} {w w' w'' : World} {bb off : Nat} {S : Option RSt} {O : Nat → Prop} {p q : Option Addr} {e : Ending} (h : Did B w bb off S O p q e w') (hf : Fut w' w'') : Did B w bb off S O p q e w'' := by
  obtain ⟨h0, S', O', kv, f, t, FT, FD, h1, h2, h3, h4, h5, h6, h7⟩ := h
  exact ⟨h0, S', O', kv, f, t, FT, FD, h1.fut hf, h2, h3, h4, h5, h6.trans (Only.fut hf), h7.trans (SameBut.of_same fun o ho => hf.block ho)⟩
theorem OpAt.only {G : Nat → Prop} {w w' : World} {b off : Nat} {o : OpL} (h : OpAt w b off o) (hf : Only G w w') (hn : ¬ G b) : OpAt w' b off o := fun j c hj => hf.cell (h j c hj) hn
end Go.Proofs.Ytcekphjcmippoaa
/- does: Add. -/
namespace Go.Proofs.Ytcekphjcmippoaa
open Go.RowKit Go.WideMaps
set_option linter.unusedSimpArgs false
set_option linter.unusedVariables false

section
variable {B : Nat} {w : World} {bb off : Nat} {S : Option RSt} {O FT FD : Nat → Prop} {p q : Option Addr} {kv : Value} {f t : Int}
set_option maxHeartbeats 1600000 in
set_option maxRecDepth 100000 in
theorem does_add (h : BothAt B w bb off S O p q kv f t FT FD) (hl : (rowsS S).length < 1353244080301) (hgn : goneS S < 4611686018427387904) (o : OpL) (ho : o.ok) (hk : o.kind = 1) :
    Calls Try.prog 26 #[.pointer (some ⟨bb, off, none⟩), o.val] w (Did B w bb off S O p q) := by
  have H := Lib.hid h
  obtain ⟨c0, c1, _⟩ := h.cell
  have hro := ho.row
  have hmo := ho.mask
  have hrow := op_row (w := w) (t := 67) hro
  have ck : (w.alloc (.cells o.cells.toArray 67)).cell? ⟨w.heap.size, 1, none⟩ = some (.int .i64 1) := by rw [← hk]; exact cell_at (heap_alloc_new w _) 1 _ rfl
  have cn : (w.alloc (.cells o.cells.toArray 67)).cell? ⟨w.heap.size, 2, none⟩ = some (.int .i64 o.n) := cell_at (heap_alloc_new w _) 2 _ rfl
  have cm : (w.alloc (.cells o.cells.toArray 67)).cell? ⟨w.heap.size, 4, none⟩ = some (.int .u32 o.mask) := cell_at (heap_alloc_new w _) 4 _ rfl
  have F1 := Fut.alloc w (.cells o.cells.toArray 67)
  clear h
  unfold OpL.val
  go_enter Try.func26, Try.ntmps26
  go_wp2_with fail
  obtain ⟨W1, hW⟩ : ∃ W1, w.alloc (.cells o.cells.toArray 67) = W1 := ⟨_, rfl⟩
  rw [hW] at hrow ck cn cm F1 ⊢
  clear hW
  replace c0 := F1.cell c0
  replace c1 := F1.cell c1
  have HW := Lib.hid (H.out.fut F1)
  obtain ⟨ca, hca⟩ : ∃ c, addC S o.row = c := ⟨_, rfl⟩
  obtain ⟨na, hna⟩ : ∃ n, addN S o.row = n := ⟨_, rfl⟩
  have hbW : B ≤ W1.heap.size := HW.out.base
  have hnt : ¬ FT bb := fun h => H.out.nb (H.out.fO _ h)
  have hnd : ¬ FD bb := fun h => H.out.nb (H.out.dO _ h)
  have hnt2 : ∀ k, FT k → k < w.heap.size := fun k hk => H.out.T.lt k hk
  have hnd2 : ∀ k, FD k → k < w.heap.size := fun k hk => H.out.D.lt k hk
  have ht1 : ¬ FT w.heap.size := fun h => by have := hnt2 _ h; omega
  have hd1 : ¬ FD w.heap.size := fun h => by have := hnd2 _ h; omega
  have hs1 := F1.size
  letI i1 : On.Mut := On.Mut.one 6 (Only FT) Only.fut Only.trans
  refine On.wp_graph 12 [.d, .d, .d, .d, .d, .d, .r (fun v w' => v = .tuple #[.bool ca, .int .i64 na] ∧ ∃ F', TAt B w' p (addS S o.row) F' ∧ ∀ k, F' k → FT k ∨ W1.heap.size ≤ k), .d, .d, .d, .d, .d] (by kernel_rfl) (by kernel_rfl) (by kernel_rfl) (.inr fun _ _ => trivial) On.one_dep ?_
  simp only [List.take_succ_cons, List.take_zero, List.drop_succ_cons, List.drop_zero, Exs]
  iterate 11 apply Exists.intro
  apply On.Run.valG (.inr fun _ _ => trivial) (wanted_none rfl _)
  · intro w1 h1 hk
    have hg : Only FT W1 w1 := (Only.fut (Fut.drew _)).trans (by first | exact h1 | exact Only.fut h1); have q0 := hg.cell c0 hnt
    go_simp; rfl
  simp only [Act.put, List.setIfInBounds_toArray, List.set_cons_succ, List.set_cons_zero, List.nil_append, List.cons_append]
  apply On.Run.valG (.inr fun _ _ => trivial) (wanted_none rfl _)
  · intro w1 h1 hk
    have hg : Only FT W1 w1 := (Only.fut (Fut.drew _)).trans (by first | exact h1 | exact Only.fut h1); have q0 := hg.cell c0 hnt
    go_simp; rfl
  simp only [Act.put, List.setIfInBounds_toArray, List.set_cons_succ, List.set_cons_zero, List.nil_append, List.cons_append]
  apply On.Run.valG (.inr fun _ _ => trivial) (wanted_none rfl _)
  · intro w1 h1 hk
    have hg : Only FT W1 w1 := (Only.fut (Fut.drew _)).trans (by first | exact h1 | exact Only.fut h1); have q0 := hg.cell c0 hnt
    go_simp; rfl
  simp only [Act.put, List.setIfInBounds_toArray, List.set_cons_succ, List.set_cons_zero, List.nil_append, List.cons_append]
  apply On.Run.valG (.inr fun _ _ => trivial) (wanted_none rfl _)
  · intro w1 h1 hk
    have hg : Only FT W1 w1 := (Only.fut (Fut.drew _)).trans (by first | exact h1 | exact Only.fut h1); have q0 := hg.cell c0 hnt
    go_simp; rfl
  simp only [Act.put, List.setIfInBounds_toArray, List.set_cons_succ, List.set_cons_zero, List.nil_append, List.cons_append]
  apply On.Run.valG (.inr fun _ _ => trivial) (wanted_none rfl _)
  · intro w1 h1 hk
    have hg : Only FT W1 w1 := (Only.fut (Fut.drew _)).trans (by first | exact h1 | exact Only.fut h1); have q0 := hg.cell c0 hnt
    go_simp; rfl
  simp only [Act.put, List.setIfInBounds_toArray, List.set_cons_succ, List.set_cons_zero, List.nil_append, List.cons_append]
  apply On.Run.valG (.inr fun _ _ => trivial) (wanted_none rfl _)
  · intro w1 h1 hk
    have hg : Only FT W1 w1 := (Only.fut (Fut.drew _)).trans (by first | exact h1 | exact Only.fut h1); have q0 := hg.cell c0 hnt
    exact exec_load_R rowTy _ rfl rfl (hrow.only hg ht1)
  simp only [Act.put, List.setIfInBounds_toArray, List.set_cons_succ, List.set_cons_zero, List.nil_append, List.cons_append]
  apply On.Run.mutR (.inr fun _ _ => trivial) (wanted_none rfl _) (by intro v w w' hf hs; exact (by obtain ⟨rfl, F', h1, h2⟩ := hs; exact ⟨rfl, F', h1.fut (show Fut _ _ from hf), h2⟩)) (fun _ _ => by go_simp; exact ⟨rfl, rfl⟩)
  · intro w1 h1 hk
    have hg : Only FT W1 w1 := (Only.fut (Fut.drew _)).trans (by first | exact h1 | exact Only.fut h1); have q0 := hg.cell c0 hnt
    refine (T_add (HW.out.fut ((Fut.drew _).trans h1)).T (HW.out.fut ((Fut.drew _).trans h1)).base hl o.row hro).mono ?_; rintro e w' ⟨rfl, hT, hO⟩; rw [hca, hna]; exact ⟨_, rfl, On.Eff.one hO, rfl, _, hT, fun k hk => hk.imp id fun h => Nat.le_trans ((Fut.drew _).trans h1).size h.1⟩
  intro v6
  simp only [Act.put, List.setIfInBounds_toArray, List.set_cons_succ, List.set_cons_zero, List.nil_append, List.cons_append]
  apply On.Run.valG (.inr fun _ _ => trivial) (wanted_none rfl _)
  · intro w1 h1 hk
    have f6 := Facts.get hk 0 rfl (by kernel_rfl)
    have hg : Only FT W1 w1 := (Only.fut (Fut.drew _)).trans (by first | exact h1 | exact Only.fut h1); have q0 := hg.cell c0 hnt
    obtain ⟨rfl, _⟩ := f6; go_simp; rfl
  simp only [Act.put, List.setIfInBounds_toArray, List.set_cons_succ, List.set_cons_zero, List.nil_append, List.cons_append]
  apply On.Run.valG (.inr fun _ _ => trivial) (wanted_none rfl _)
  · intro w1 h1 hk
    have hg : Only FT W1 w1 := (Only.fut (Fut.drew _)).trans (by first | exact h1 | exact Only.fut h1); have q0 := hg.cell c0 hnt
    go_simp; rfl
  simp only [Act.put, List.setIfInBounds_toArray, List.set_cons_succ, List.set_cons_zero, List.nil_append, List.cons_append]
  apply On.Run.valG (.inr fun _ _ => trivial) (wanted_none rfl _)
  · intro w1 h1 hk
    have hg : Only FT W1 w1 := (Only.fut (Fut.drew _)).trans (by first | exact h1 | exact Only.fut h1); have q0 := hg.cell c0 hnt
    go_simp; rfl
  simp only [Act.put, List.setIfInBounds_toArray, List.set_cons_succ, List.set_cons_zero, List.nil_append, List.cons_append]
  apply On.Run.valG (.inr fun _ _ => trivial) (wanted_none rfl _)
  · intro w1 h1 hk
    have f6 := Facts.get hk 0 rfl (by kernel_rfl)
    have hg : Only FT W1 w1 := (Only.fut (Fut.drew _)).trans (by first | exact h1 | exact Only.fut h1); have q0 := hg.cell c0 hnt
    go_simp; rfl
  simp only [Act.put, List.setIfInBounds_toArray, List.set_cons_succ, List.set_cons_zero, List.nil_append, List.cons_append]
  apply On.Run.valG (.inr fun _ _ => trivial) (wanted_none rfl _)
  · intro w1 h1 hk
    have hg : Only FT W1 w1 := (Only.fut (Fut.drew _)).trans (by first | exact h1 | exact Only.fut h1); have q0 := hg.cell c0 hnt
    go_simp; rfl
  simp only [Act.put, List.setIfInBounds_toArray, List.set_cons_succ, List.set_cons_zero, List.nil_append, List.cons_append]
  apply On.Run.done
  intro w2 h2 hk hJ
  obtain ⟨f6, _⟩ := hk
  obtain ⟨rfl, G1, hT, hb1⟩ := f6
  have hO3 : Only FT W1 w2 := (Only.fut (Fut.drew _)).trans (show Only FT _ _ from h2)
  clear i1 h2 hJ
  have hs3 := hO3.size
  have HD := Lib.hid (HW.out.D.only hO3 fun k hd ht => H.out.dis k ht hd)
  have HT := Lib.hid hT
  clear hT
  have d1 := hO3.cell c1 hnt
  have hrow2 := hrow.only hO3 ht1
  have hG2 : ∀ k, G1 k → k < w2.heap.size := HT.out.lt
  have hn1 : ∀ k, G1 k → ¬ FD k := fun k hk hd => (hb1 k hk).elim (fun h => H.out.dis k h hd) (fun h => by have := hnd2 k hd; omega)
  go_wp2_with fail
  letI i2 : On.Mut := On.Mut.one 6 (Only FD) Only.fut Only.trans
  refine On.wp_graph 12 [.d, .d, .d, .d, .d, .d, .r (fun v w' => v = .tuple #[.bool ca, .int .i64 na] ∧ ∃ F2, TAt B w' p (addS S o.row) G1 ∧ DAt B w' q (addS S o.row) F2 ∧ (∀ k, G1 k → ¬ F2 k) ∧ ∀ k, F2 k → FD k ∨ W1.heap.size ≤ k), .d, .d, .d, .d, .d] (by kernel_rfl) (by kernel_rfl) (by kernel_rfl) (.inr fun _ _ => trivial) On.one_dep ?_
  simp only [List.take_succ_cons, List.take_zero, List.drop_succ_cons, List.drop_zero, Exs]
  iterate 11 apply Exists.intro
  apply On.Run.valG (.inr fun _ _ => trivial) (wanted_none rfl _)
  · intro w1 h1 hk
    have hg : Only FD w2 w1 := (Only.fut (Fut.drew _)).trans (by first | exact h1 | exact Only.fut h1); have q0 := hg.cell d1 hnd
    go_simp; rfl
  simp only [Act.put, List.setIfInBounds_toArray, List.set_cons_succ, List.set_cons_zero, List.nil_append, List.cons_append]
  apply On.Run.valG (.inr fun _ _ => trivial) (wanted_none rfl _)
  · intro w1 h1 hk
    have hg : Only FD w2 w1 := (Only.fut (Fut.drew _)).trans (by first | exact h1 | exact Only.fut h1); have q0 := hg.cell d1 hnd
    go_simp; rfl
  simp only [Act.put, List.setIfInBounds_toArray, List.set_cons_succ, List.set_cons_zero, List.nil_append, List.cons_append]
  apply On.Run.valG (.inr fun _ _ => trivial) (wanted_none rfl _)
  · intro w1 h1 hk
    have hg : Only FD w2 w1 := (Only.fut (Fut.drew _)).trans (by first | exact h1 | exact Only.fut h1); have q0 := hg.cell d1 hnd
    go_simp; rfl
  simp only [Act.put, List.setIfInBounds_toArray, List.set_cons_succ, List.set_cons_zero, List.nil_append, List.cons_append]
  apply On.Run.valG (.inr fun _ _ => trivial) (wanted_none rfl _)
  · intro w1 h1 hk
    have hg : Only FD w2 w1 := (Only.fut (Fut.drew _)).trans (by first | exact h1 | exact Only.fut h1); have q0 := hg.cell d1 hnd
    go_simp; rfl
  simp only [Act.put, List.setIfInBounds_toArray, List.set_cons_succ, List.set_cons_zero, List.nil_append, List.cons_append]
  apply On.Run.valG (.inr fun _ _ => trivial) (wanted_none rfl _)
  · intro w1 h1 hk
    have hg : Only FD w2 w1 := (Only.fut (Fut.drew _)).trans (by first | exact h1 | exact Only.fut h1); have q0 := hg.cell d1 hnd
    go_simp; rfl
  simp only [Act.put, List.setIfInBounds_toArray, List.set_cons_succ, List.set_cons_zero, List.nil_append, List.cons_append]
  apply On.Run.valG (.inr fun _ _ => trivial) (wanted_none rfl _)
  · intro w1 h1 hk
    have hg : Only FD w2 w1 := (Only.fut (Fut.drew _)).trans (by first | exact h1 | exact Only.fut h1); have q0 := hg.cell d1 hnd
    exact exec_load_R rowTy _ rfl rfl (hrow2.only hg hd1)
  simp only [Act.put, List.setIfInBounds_toArray, List.set_cons_succ, List.set_cons_zero, List.nil_append, List.cons_append]
  apply On.Run.mutR (.inr fun _ _ => trivial) (wanted_none rfl _) (by intro v w w' hf hs; exact (by obtain ⟨rfl, F', h1, h2, h3⟩ := hs; exact ⟨rfl, F', h1.fut (show Fut _ _ from hf), h2.fut (show Fut _ _ from hf), h3⟩)) (fun _ _ => by go_simp; exact ⟨rfl, rfl⟩)
  · intro w1 h1 hk
    have hg : Only FD w2 w1 := (Only.fut (Fut.drew _)).trans (by first | exact h1 | exact Only.fut h1); have q0 := hg.cell d1 hnd
    refine (D_add (HD.out.fut ((Fut.drew _).trans h1)) (Nat.le_trans hbW (Nat.le_trans hs3 hg.size)) hl o.row hro).mono ?_; rintro e w' ⟨rfl, hD, hO⟩; rw [hca, hna]; exact ⟨_, rfl, On.Eff.one hO, rfl, _, (HT.out.fut ((Fut.drew _).trans h1)).only hO hn1, hD, fun k h3 h4 => h4.elim (hn1 k h3) fun h => (by have := hG2 k h3; have := hg.size; omega), fun k hk => hk.imp id fun h => (by have := hg.size; omega)⟩
  intro v6
  simp only [Act.put, List.setIfInBounds_toArray, List.set_cons_succ, List.set_cons_zero, List.nil_append, List.cons_append]
  apply On.Run.valG (.inr fun _ _ => trivial) (wanted_none rfl _)
  · intro w1 h1 hk
    have f6 := Facts.get hk 0 rfl (by kernel_rfl)
    have hg : Only FD w2 w1 := (Only.fut (Fut.drew _)).trans (by first | exact h1 | exact Only.fut h1); have q0 := hg.cell d1 hnd
    obtain ⟨rfl, _⟩ := f6; go_simp; rfl
  simp only [Act.put, List.setIfInBounds_toArray, List.set_cons_succ, List.set_cons_zero, List.nil_append, List.cons_append]
  apply On.Run.valG (.inr fun _ _ => trivial) (wanted_none rfl _)
  · intro w1 h1 hk
    have hg : Only FD w2 w1 := (Only.fut (Fut.drew _)).trans (by first | exact h1 | exact Only.fut h1); have q0 := hg.cell d1 hnd
    go_simp; rfl
  simp only [Act.put, List.setIfInBounds_toArray, List.set_cons_succ, List.set_cons_zero, List.nil_append, List.cons_append]
  apply On.Run.valG (.inr fun _ _ => trivial) (wanted_none rfl _)
  · intro w1 h1 hk
    have hg : Only FD w2 w1 := (Only.fut (Fut.drew _)).trans (by first | exact h1 | exact Only.fut h1); have q0 := hg.cell d1 hnd
    go_simp; rfl
  simp only [Act.put, List.setIfInBounds_toArray, List.set_cons_succ, List.set_cons_zero, List.nil_append, List.cons_append]
  apply On.Run.valG (.inr fun _ _ => trivial) (wanted_none rfl _)
  · intro w1 h1 hk
    have f6 := Facts.get hk 0 rfl (by kernel_rfl)
    have hg : Only FD w2 w1 := (Only.fut (Fut.drew _)).trans (by first | exact h1 | exact Only.fut h1); have q0 := hg.cell d1 hnd
    go_simp; rfl
  simp only [Act.put, List.setIfInBounds_toArray, List.set_cons_succ, List.set_cons_zero, List.nil_append, List.cons_append]
  apply On.Run.valG (.inr fun _ _ => trivial) (wanted_none rfl _)
  · intro w1 h1 hk
    have hg : Only FD w2 w1 := (Only.fut (Fut.drew _)).trans (by first | exact h1 | exact Only.fut h1); have q0 := hg.cell d1 hnd
    go_simp; rfl
  simp only [Act.put, List.setIfInBounds_toArray, List.set_cons_succ, List.set_cons_zero, List.nil_append, List.cons_append]
  apply On.Run.done
  intro w3 h3 hk hJ
  obtain ⟨f6, _⟩ := hk
  obtain ⟨rfl, G2, hT2, hD2, hdis, hb2⟩ := f6
  have hO : Only (fun k => FT k ∨ FD k) w w3 := ((Only.fut F1).trans (hO3.mono fun k _ hk => .inl hk)).trans ((Only.fut (Fut.drew w2)).trans ((show Only FD _ _ from h3).mono fun k _ hk => .inr hk))
  clear i2 h3 hJ
  go_wp2
  go_ret
  simp
  exact did_turn H.out hT2 hD2 hdis (fun k hk => (hb1 k hk).imp id fun h => by omega) (fun k hk => (hb2 k hk).imp id fun h => by omega) hO (add_len S o.row) (add_gone S o.row) (fun h => by rw [h]; rfl)
end
end Go.Proofs.Ytcekphjcmippoaa
