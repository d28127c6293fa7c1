/- Fill, RelP, RelC, RelA, RelT, Parts2, Parts3, Parts4, Twin, Fact, Ord, Arith, Name -/
import Derived.Great.BuildSlice
import Derived.Lib.AppendZerosOnto
import Derived.Test.YtcpphabehpbmlaaC04
/- A row laid into a slice or a struct that is just built. No program. -/
namespace Go.Proofs.Ytcpphabehpbmlaa
open Go.RowKit Go.WideMaps
set_option linter.unusedSimpArgs false
set_option linter.unusedVariables false

theorem fold_put (o : Nat) : ∀ (l : List Value) (k : Nat) (arr : Array Value), ∃ arr' : Array Value, (l.zipIdx k).foldl (fun cs p => cs.setIfInBounds (o + p.2) p.1) arr = arr' ∧ arr'.size = arr.size ∧
    ∀ j, arr'[j]? = if o + k ≤ j ∧ j < o + k + l.length ∧ j < arr.size then l[j - (o + k)]? else arr[j]?
  | [], k, arr => ⟨arr, rfl, rfl, fun j => by rw [if_neg (by simp; omega)]⟩
  | v :: l, k, arr => by
    obtain ⟨arr', h1, h2, h3⟩ := fold_put o l (k + 1) (arr.setIfInBounds (o + k) v)
    refine ⟨arr', by rw [List.zipIdx_cons, List.foldl_cons]; exact h1, by rw [h2]; simp, fun j => ?_⟩
    rw [h3]
    simp only [Array.size_setIfInBounds, List.length_cons]
    by_cases h4 : j = o + k
    · subst h4
      rw [if_neg (by omega)]
      by_cases h5 : o + k < arr.size
      · rw [if_pos (by omega)]; simp [h5]
      · rw [if_neg (by omega)]; simp [h5]
    · rw [Array.getElem?_setIfInBounds_ne (Ne.symm h4)]
      by_cases h5 : o + (k + 1) ≤ j ∧ j < o + (k + 1) + l.length ∧ j < arr.size
      · rw [if_pos h5, if_pos (by omega), show j - (o + k) = (j - (o + (k + 1))) + 1 by omega, List.getElem?_cons_succ]
      · rw [if_neg h5, if_neg (by omega)]
/-- One part, at offset off, of size sz. -/
theorem fill_one {place : Nat → Option (Nat × Nat)} {i off sz : Nat} {v : Value} {zero : Array Value} (hp : place i = some (off, sz)) (hs : v.cells.size = sz) (hz : off + sz ≤ zero.size) (rest : List (Nat × Value)) :
    ∃ arr' : Array Value, Instr.fill place zero ((i, v) :: rest) = Instr.fill place arr' rest ∧ arr'.size = zero.size ∧ ∀ j, arr'[j]? = if off ≤ j ∧ j < off + sz then v.cells[j - off]? else zero[j]? := by
  obtain ⟨arr', h1, h2, h3⟩ := fold_put off v.cells.toList 0 zero
  refine ⟨arr', ?_, h2, fun j => ?_⟩
  · have h4 : v.cells.zipIdx.foldl (fun cs (c, j) => cs.setIfInBounds (off + j) c) zero = arr' := by
      rw [← h1, ← Array.foldl_toList, Array.toList_zipIdx]
    conv => lhs; unfold Instr.fill
    simp only [hp]
    rw [if_neg (by simp [hs]; omega), h4]
  · rw [h3]
    simp only [Nat.add_zero, Array.length_toList, hs, Array.getElem?_toList]
    by_cases h5 : off ≤ j ∧ j < off + sz
    · rw [if_pos h5, if_pos (by omega)]
    · rw [if_neg h5, if_neg (by omega)]
section
variable {P : Program} {t k e : TypeId} {w : World} {o : Oper} {a : Act} {x : Rw}
/-- A list of one row. -/
theorem exec_one_R (T : RowTy P k e) (hz : ∃ z, (P.info? k).bind (·.zero) = some z ∧ z.cells.size = 24) (ht : P.underlying t = some (.slice k)) (y : Operand) (ho : o.op = .buildSlice t 1 #[(0, y)]) (hy : a.eval y = Rw.val x) (hx : Rw.ok x) :
    (execOp a.eval o).run P w = .ok (.value (.slice (some ⟨w.heap.size, 0, none⟩) 1 1)) (w.alloc (.cells (Rw.cells x).toArray k)) := by
  have hi := T.hi
  cases hq : P.info? k with
  | none => simp [hq] at hi
  | some ie =>
    have hs : ie.size = 24 := by simpa [hq] using hi
    obtain ⟨z, hz1, hz2⟩ := hz
    rw [hq] at hz1
    obtain ⟨arr', h1, h2, h3⟩ := fill_one (place := fun i => some (i * 24, 24)) (i := 0) (off := 0) (sz := 24) (v := Rw.val x) (zero := ((Array.range (1 * 24)).map (z.cells[· % z.cells.size]!))) rfl (by simp [Rw.val_cells, Rw.cells_len hx]) (by simp) []
    have e1 : arr' = (Rw.cells x).toArray := by
      refine Array.ext_getElem? fun j => ?_
      rw [h3]
      by_cases hj : j < 24
      · rw [if_pos (by omega)]; simp [Rw.val_cells]
      · rw [if_neg (by omega)]
        have := Rw.cells_len hx
        rw [Array.getElem?_eq_none (by simp; omega), Array.getElem?_eq_none (by simp; omega)]
    have hf : Instr.fill (fun i => some (i * 24, 24)) ((Array.range (1 * 24)).map (z.cells[· % z.cells.size]!)) [(0, Rw.val x)] = some (Rw.cells x).toArray := by rw [h1, e1]; rfl
    have hrun := run_buildSlice (P := P) w t k 1 #[(0, Rw.val x)] (Rw.cells x).toArray ie z ht hq (by simpa using hz1) (by rw [hs]; omega) (by rw [hs]; omega) (by rw [hs]; exact hf)
    unfold execOp
    simp only [ho, List.map_toArray, List.map_cons, List.map_nil, hy, hrun, Sem.run_bind, Sem.run_pure, Result.andThen_ok]
end
end Go.Proofs.Ytcpphabehpbmlaa
/- places.put; Add. -/
namespace Go.Proofs.Ytcpphabehpbmlaa
open Go.RowKit Go.WideMaps
set_option linter.unusedSimpArgs false
set_option linter.unusedVariables false

/-- A list of one row, just built. -/
theorem rowOne (w : World) (t : TypeId) {x : Rw} (hx : Rw.ok x) : SlRep 24 1 RR (w.alloc (.cells (Rw.cells x).toArray t)) (.slice (some ⟨w.heap.size, 0, none⟩) 1 1) [x] :=
  ⟨_, _, rfl, Nat.le_refl _, Nat.le_refl _, fun i y hy => by
    have hi : i = 0 := by
      have := (List.getElem?_eq_some_iff.1 hy).1
      simp at this; omega
    subst hi
    simp at hy
    subst hy
    refine ⟨_, 0, Rw.cells x, rfl, Rw.cells_len hx, fun j c hj => ?_, rfl, hx⟩
    have := (RowAt.new w t hx).2 j c hj
    rwa [Nat.zero_mul, show 0 + (0 + j) = 0 + j by omega]⟩
/-- APPEND of rows. -/
theorem run_append_R {P : Program} {t ty e : TypeId} {B : Nat} {w : World} {v u : Value} {xs ys : List Rw} {M : Nat} (ht : P.underlying t = some (.slice e))
    (hinfo : (P.info? e).map (fun i => (i.zero, i.size, i.bytes)) = some (some (Rw.val zeroRow), 24, 96))
    (h : OwnL 24 B e RR w v xs) (hu : SlRep 24 M RR w u ys) (hlen : xs.length + ys.length ≤ 1407374883512) (hbase : B ≤ w.heap.size) :
    ∃ v' w', (Builtin.append_ #[t, t] ty #[v, u]).run P w = .ok v' w' ∧ OwnL 24 B e RR w' v' (xs ++ ys) ∧ w.grownBy w' v.ownBlock ∧ (v'.ownBlock = v.ownBlock ∨ v'.ownBlock = some w.heap.size) := by
  obtain ⟨i, hi, hz, hs, hb⟩ := info_parts hinfo
  exact run_append_list_at t ty i _ 96 ht hi hz hs hb rfl (by omega) RR.one (fun _ _ _ h _ => h) h hu (by unfold maxLen; omega) (by omega) hbase
theorem wpList_append_R {P : Program} {ops : Array Oper} {rest : List Oper} {o : Oper} {a : Act} {Q : Exit → Act → World → Prop} {t e : TypeId} {B : Nat} {w : World} {v u : Value} {xs ys : List Rw} {M : Nat} (hgd : Region.wanted o (yielded ops a.tmps) = true) (s x : Operand)
    (ho : o.op = .call { callee := .builtin .append, args := #[s, x], argTypes := #[t, t] }) (ht : P.underlying t = some (.slice e))
    (hinfo : (P.info? e).map (fun i => (i.zero, i.size, i.bytes)) = some (some (Rw.val zeroRow), 24, 96))
    (hs : a.eval s = v) (hx : a.eval x = u) (hown : OwnL 24 B e RR w v xs) (hu : SlRep 24 M RR w u ys) (hlen : xs.length + ys.length ≤ 1407374883512) (hbase : B ≤ w.heap.size)
    (h : ∀ v' w', OwnL 24 B e RR w' v' (xs ++ ys) → w.grownBy w' v.ownBlock → (v'.ownBlock = v.ownBlock ∨ v'.ownBlock = some w.heap.size) → wpList P ops Q rest (a.put o.dst v') w') : wpList P ops Q (o :: rest) a w := by
  obtain ⟨v', w', hr, h2, h3, h4⟩ := run_append_R (ty := o.type) ht hinfo hown hu hlen hbase
  refine wpList_of_run hgd (v := v') (w' := w') ?_ (h v' w' h2 h3 h4)
  unfold execOp
  simp only [ho, resolve, invoke, builtin, Sem.run_bind, Sem.run_pure, Result.andThen_ok, List.map_toArray, List.map_cons, List.map_nil, hs, hx, hr]
theorem wpList_push_R {P : Program} {k e t ev : TypeId} {ops : Array Oper} {rest : List Oper} {o : Oper} {a : Act} {Q : Exit → Act → World → Prop} {w : World} {b : Nat} {f : Rw → Option Int} {x : Rw} {v : Int} (T : RowTy P k e) (hgd : Region.wanted o (yielded ops a.tmps) = true) (ht : P.underlying t = some (.map k ev)) (m y z : Operand)
    (ho : o.op = .mapUpdate t m y z) (hm : a.eval m = .map (some b)) (hy : a.eval y = Rw.val x) (hz : a.eval z = .int .i64 v) (h : MapR w b f) (hx : Rw.ok x) (hn : f x = none)
    (hk : ∀ w', MapR w' b (fun y => if y = x then some v else f y) → w.grownBy w' (some b) → wpList P ops Q rest (a.put o.dst undef) w') : wpList P ops Q (o :: rest) a w := by
  obtain ⟨w', hr, h2, h3⟩ := h.push T.A T.he T.hsz ht hx hn v
  refine wpList_of_skip hgd (w' := w') ?_ (hk w' h2 h3)
  unfold execOp
  simp only [ho, hm, hy, hz, hr, Sem.run_bind, Sem.run_pure, Result.andThen_ok]

theorem OwnL.onlyR {B : Nat} {e : TypeId} {w w' : World} {v : Value} {xs : List Rw} {S : Nat → Prop} (h : OwnL 24 B e RR w v xs) (hg : Only S w w') (hne : ∀ k, v.ownBlock = some k → ¬ S k) : OwnL 24 B e RR w' v xs :=
  h.only (fun _ _ h => h) hg hne
theorem set_blk {w : World} {g i : Nat} {cs : Array Value} {t : TypeId} {fr : Nat × Nat} {v : Value} (h : w.heap[g]? = some (.cells cs t fr)) : (w.setCell ⟨g, i, none⟩ v).heap[g]? = some (.cells (cs.setIfInBounds i v) t fr) := by
  simp [World.setCell, Array.getElem?_modify, h]
end Go.Proofs.Ytcpphabehpbmlaa
/- slices.Grow of nothing, slices.Concat, of rows. -/
namespace Go.Proofs.Ytcpphabehpbmlaa
open Go.RowKit Go.WideMaps
set_option linter.unusedSimpArgs false
set_option linter.unusedVariables false

theorem wpList_growz {P : Program} {ops : Array Oper} {rest : List Oper} {o : Oper} {a : Act} {Q : Exit → Act → World → Prop} {t tn e : TypeId} {w : World} {k : Nat} {z : Value} {kn : IntKind} (hgd : Region.wanted o (yielded ops a.tmps) = true) (s y : Operand)
    (ho : o.op = .call { callee := .builtin .append, args := #[s, y], argTypes := #[t, tn] }) (ht : P.underlying t = some (.slice e)) (htn : P.underlying tn = some (.int kn))
    (hinfo : (P.info? e).map (fun i => (i.zero, i.size, i.bytes)) = some (some z, 24, 96)) (hz : z.cells.size = 24)
    (hs : a.eval s = .slice none 0 0) (hy : a.eval y = .int .i64 k) (h0 : 0 < k) (hk : k ≤ 1407374883512)
    (h : ∀ cap cur, k ≤ cap → cap ≤ maxLen → cur.size = cap * 24 → wpList P ops Q rest (a.put o.dst (.slice (some ⟨w.heap.size, 0, none⟩) k cap)) (w.drew.alloc (.cells cur e))) : wpList P ops Q (o :: rest) a w := by
  obtain ⟨i, hi, hz', hs', hb⟩ := info_parts hinfo
  have hnext : Builtin.nextslicecap (0 + k) 0 = k := by
    unfold Builtin.nextslicecap
    rw [if_pos (by omega)]; omega
  have hr := Lib.run_append_grow_zeros (P := P) w t tn o.type e i z .i64 kn ht htn hi hz' none 0 0 [] (by simp [run_firstCells_none]) k h0 (by omega) (by omega) (by omega) (by rw [hb]; omega) (by rw [hnext, hb]; omega)
  rw [Nat.zero_add] at hr
  have hg1 := grownCap_ge w k 0 e
  have hg2 := grownCap_le_maxLen w k 0 e (by unfold maxLen; omega)
  have hsz : (([] : List Value).toArray ++ Builtin.zeroCells z.cells k ++ Builtin.zeroCells z.cells (grownCap w k 0 e - k)).size = grownCap w k 0 e * 24 := by
    simp [Builtin.zeroCells, hz]
    rw [← Nat.add_mul]
    congr 1
    omega
  obtain ⟨cur, hcur⟩ : ∃ cur, ([] : List Value).toArray ++ Builtin.zeroCells z.cells k ++ Builtin.zeroCells z.cells (grownCap w k 0 e - k) = cur := ⟨_, rfl⟩
  rw [hcur] at hr hsz
  refine wpList_of_run hgd ?_ (h _ cur hg1 hg2 hsz)
  unfold execOp
  simp only [ho, resolve, invoke, builtin, Sem.run_bind, Sem.run_pure, Result.andThen_ok, List.map_toArray, List.map_cons, List.map_nil, hs, hy, hr]
/-- Rows of any make. -/
abbrev Rws : World → Value → List Rw → Prop := SlRep 24 9223372036854775807 RR
def RRs (w : World) (cs : List Value) (xs : List Rw) : Prop := ∃ u, cs = [u] ∧ Rws w u xs
theorem RRs.stays : Stays RRs := fun _ _ _ _ hf ⟨v, h1, h2⟩ => ⟨v, h1, h2.fut RR.stays hf⟩
theorem rws_at {w : World} {A : Option Addr} {n cap M : Nat} {ss : List (List Rw)} (h : SlRep 1 M RRs w (.slice A n cap) ss) {k : Nat} (hk : k < ss.length) :
    ∃ b off A' cap', A = some ⟨b, off, none⟩ ∧ w.cell? ⟨b, off + k, none⟩ = some (.slice A' (ss[k]).length cap') ∧ (ss[k]).length ≤ cap' ∧ cap' ≤ 9223372036854775807 ∧ Rws w (.slice A' (ss[k]).length cap') ss[k] := by
  obtain ⟨A1, cap1, hv, _, _, h3⟩ := h
  obtain ⟨b, off, cs, hA, hl, hc, u, hr, hu⟩ := h3 k _ (List.getElem?_eq_getElem hk)
  injection hv with hv _ _
  subst hr
  obtain ⟨A', cap', rfl, h4, h5⟩ := SlRep.form hu
  exact ⟨b, off, A', cap', hv.trans hA, by have := hc 0 _ rfl; simpa using this, h4, h5, hu⟩
def sumL (ss : List (List Rw)) : Nat := ss.flatten.length
theorem sumL_take (ss : List (List Rw)) (k : Nat) (hk : k < ss.length) : sumL (ss.take (k + 1)) = sumL (ss.take k) + (ss[k]).length := by
  unfold sumL
  rw [List.take_succ_eq_append_getElem hk, List.flatten_append, List.length_append]; simp
theorem sumL_le (ss : List (List Rw)) (k : Nat) : sumL (ss.take k) ≤ sumL ss := by
  conv => rhs; rw [← List.take_append_drop k ss]
  unfold sumL
  rw [List.flatten_append, List.length_append]; omega
end Go.Proofs.Ytcpphabehpbmlaa
/- Relation.Add. -/
namespace Go.Proofs.Ytcpphabehpbmlaa
open Go.RowKit Go.WideMaps
set_option linter.unusedSimpArgs false
set_option linter.unusedVariables false

def addL (ar : Nat) (xs : List Rw) (x : Rw) : List Rw := if (rightP ar x && !decide (x ∈ xs)) = true then xs ++ [x] else xs
def rowErr : Bool → Int
  | true => 0
  | false => 100
end Go.Proofs.Ytcpphabehpbmlaa
/- places.take; Remove. -/
namespace Go.Proofs.Ytcpphabehpbmlaa
open Go.RowKit Go.WideMaps
set_option linter.unusedSimpArgs false
set_option linter.unusedVariables false

theorem wpList_clear_M {P : Program} {k t ev : TypeId} {ops : Array Oper} {rest : List Oper} {o : Oper} {a : Act} {Q : Exit → Act → World → Prop} {w : World} {b : Nat} {f : Rw → Option Int} (hgd : Region.wanted o (yielded ops a.tmps) = true) (ht : P.underlying t = some (.map k ev)) (m : Operand)
    (ho : o.op = .call { callee := .builtin .clear, args := #[m], argTypes := #[t] }) (hm : a.eval m = .map (some b)) (h : MapR w b f)
    (hk : ∀ w', MapR w' b (fun _ => none) → w.grownBy w' (some b) → wpList P ops Q rest (a.put o.dst (.tuple #[])) w') : wpList P ops Q (o :: rest) a w := by
  obtain ⟨w', hr, h2, h3⟩ := h.clear ht o.type
  refine wpList_of_run hgd (w' := w') ?_ (hk w' h2 h3)
  unfold execOp
  simp only [ho, resolve, invoke, builtin, Sem.run_bind, Sem.run_pure, Result.andThen_ok, List.map_toArray, List.map_cons, List.map_nil, hm, hr]
theorem wpList_store_1 {P : Program} {t : TypeId} {ops : Array Oper} {rest : List Oper} {o : Oper} {a : Act} {Q : Exit → Act → World → Prop} {w w' : World} {g i : Nat} {v u : Value} (hgd : Region.wanted o (yielded ops a.tmps) = true) (x y : Operand)
    (ho : o.op = .store t x y) (hx : a.eval x = .pointer (some ⟨g, i, none⟩)) (hy : a.eval y = v) (hi : (P.info? t).map (·.size) = some 1) (h1 : v.oneCell' = true) (hc : w.cell? ⟨g, i, none⟩ = some u) (hz : w.frozen? ⟨g, i, none⟩ = false)
    (hw : w.setCell ⟨g, i, none⟩ v = w') (h : wpList P ops Q rest (a.put o.dst undef) w') : wpList P ops Q (o :: rest) a w := by
  subst hw
  refine wpList_of_skip hgd ?_ h
  have hcl : v.cells = #[v] := by
    unfold Value.cells
    unfold Value.oneCell' at h1
    split at h1 <;> simp_all
  have h2 := run_storeCells_cells (P := P) g i [v] 0 w (fun j hj => by
    simp at hj; subst hj; show (w.cell? ⟨g, i, none⟩).isSome = true; rw [hc]; rfl) (fun j hj => by simp at hj; subst hj; exact hz) (fun u hu => by simp at hu; subst hu; exact h1)
  simp only [Nat.add_zero, World.setCells] at h2
  unfold execOp
  cases hq : P.info? t with
  | none => simp [hq] at hi
  | some ii =>
    have hs : ii.size = 1 := by simpa [hq] using hi
    simp [ho, hx, hy, Instr.storeAt, Instr.sureAddr, storeVar, sizeOf, typeInfo, hq, hs, hcl, h2]
theorem rws_take {w : World} {A : Option Addr} {cap : Nat} {xs : List Rw} (h : Rws w (.slice A xs.length cap) xs) {k : Nat} (hk : k ≤ xs.length) : Rws w (.slice A k cap) (xs.take k) := by
  obtain ⟨A1, cap1, hv, h1, h2, h3⟩ := h
  injection hv with e1 _ e2
  refine ⟨A, cap, by rw [List.length_take, Nat.min_eq_left hk], by rw [List.length_take]; omega, by omega, fun i x hx => ?_⟩
  rw [e1]
  rw [List.getElem?_take] at hx
  split at hx
  · exact h3 i x hx
  · cases hx
theorem rws_drop {w : World} {b off : Nat} {cap : Nat} {xs : List Rw} (h : Rws w (.slice (some ⟨b, off, none⟩) xs.length cap) xs) {k : Nat} (hk : k ≤ xs.length) : Rws w (.slice (some ⟨b, off + k * 24, none⟩) (xs.length - k) (cap - k)) (xs.drop k) := by
  obtain ⟨A1, cap1, hv, h1, h2, h3⟩ := h
  injection hv with e1 _ e2
  refine ⟨_, cap - k, by rw [List.length_drop], by rw [List.length_drop]; omega, by omega, fun i x hx => ?_⟩
  rw [List.getElem?_drop] at hx
  obtain ⟨b', off', cs, hA, hl, hc, hr⟩ := h3 (k + i) x hx
  rw [← e1] at hA
  injection hA with hA
  injection hA with ha hb _
  subst ha; subst hb
  refine ⟨_, _, cs, rfl, hl, fun j c hj => ?_, hr⟩
  have := hc j c hj
  rwa [show off + ((k + i) * 24 + j) = off + k * 24 + (i * 24 + j) by omega] at this

theorem rws_drop' {w : World} {b off : Nat} {cap : Nat} {xs : List Rw} (h : Rws w (.slice (some ⟨b, off, none⟩) xs.length cap) xs) {k : Nat} (hk : k ≤ xs.length) : Rws w (.slice (if cap = k then some ⟨b, off, none⟩ else some ⟨b, off + k * 24, none⟩) (xs.length - k) (cap - k)) (xs.drop k) := by
  by_cases hc : cap = k
  · obtain ⟨A1, cap1, hv, h1, _, _⟩ := h
    injection hv with _ _ e2
    have hd : xs.drop k = [] := List.drop_eq_nil_of_le (by omega)
    rw [if_pos hc, hd]
    refine ⟨_, cap - k, by rw [show xs.length - k = 0 by omega]; rfl, Nat.zero_le _, by omega, fun i x hx => by simp at hx⟩
  · rw [if_neg hc]; exact rws_drop h hk
theorem rws_two (w : World) (t : TypeId) {u v : Value} {xs ys : List Rw} (hu : Rws w u xs) (hv : Rws w v ys) : SlRep 1 1000 RRs (w.alloc (.cells #[u, v] t)) (.slice (some ⟨w.heap.size, 0, none⟩) 2 2) [xs, ys] := by
  refine ⟨_, 2, rfl, Nat.le_refl _, by omega, fun i x hx => ?_⟩
  have hb := heap_alloc_new w (.cells #[u, v] t)
  have hil := (List.getElem?_eq_some_iff.1 hx).1
  simp only [List.length_cons, List.length_nil] at hil
  match i, hil with
  | 0, _ =>
    simp at hx; subst hx
    refine ⟨_, 0, [u], rfl, rfl, fun j c hj => ?_, u, rfl, hu.fut RR.stays (Fut.alloc _ _)⟩
    have := (List.getElem?_eq_some_iff.1 hj).1
    simp at this; subst this; simp at hj; subst hj
    exact cell_at hb 0 _ rfl
  | 1, _ =>
    simp at hx; subst hx
    refine ⟨_, 0, [v], rfl, rfl, fun j c hj => ?_, v, rfl, hv.fut RR.stays (Fut.alloc _ _)⟩
    have := (List.getElem?_eq_some_iff.1 hj).1
    simp at this; subst this; simp at hj; subst hj
    exact cell_at hb 1 _ rfl
end Go.Proofs.Ytcpphabehpbmlaa
/- literalParts, RuleParts, BeyondRules. -/
namespace Go.Proofs.Ytcpphabehpbmlaa
open Go.RowKit
set_option linter.unusedSimpArgs false
set_option linter.unusedVariables false

def Ex.op : Ex → Int
  | .mk op _ _ => op
def Ex.t : Ex → Tm
  | .mk _ t _ => t
def Ex.cs (x : Ex) (kv : Value) : List Value := [.int .i8 x.op, .string x.t.v, .int .i8 x.t.x.k, .int .i64 x.t.x.n, .string x.t.x.s, kv]
theorem ex_cs {w : World} {cs : List Value} {x : Ex} (h : RX w cs x) : ∃ n A l c, cs = x.cs (.slice A l c) ∧ RE n w (x.cs (.slice A l c)) x := by
  obtain ⟨n, h⟩ := h
  obtain ⟨m, op, t, ks, A, c, hn, rfl, rfl, h1, h2, h3⟩ := ex_form h
  exact ⟨n, A, ks.length, c, rfl, h⟩
def Lt.cs (x : Lt) (av kl kd : Value) : List Value := [.int .i8 x.k, .string x.p, av, .int .i8 x.r, .int .i8 x.l.op, .string x.l.t.v, .int .i8 x.l.t.x.k, .int .i64 x.l.t.x.n, .string x.l.t.x.s, kl, .int .i8 x.d.op, .string x.d.t.v, .int .i8 x.d.t.x.k, .int .i64 x.d.t.x.n, .string x.d.t.x.s, kd]
/-- A literal's cells, told. -/
structure LtC (w : World) (x : Lt) (av kl kd : Value) : Prop where
  args : SlRep 4 2932031007402 RTm w av x.a
  left : ∃ n, RE n w (x.l.cs kl) x.l
  right : ∃ n, RE n w (x.d.cs kd) x.d
  kw : (Lit.int .i8 x.k).wf = true
  rw' : (Lit.int .i8 x.r).wf = true
  pw : x.p.size ≤ 140737488351232
theorem lt_cs {w : World} {cs : List Value} {x : Lt} (h : RLt w cs x) : ∃ A c Al l cl Ad d cd, cs = x.cs (.slice A x.a.length c) (.slice Al l cl) (.slice Ad d cd) ∧ x.a.length ≤ c ∧ c ≤ 2932031007402 ∧ LtC w x (.slice A x.a.length c) (.slice Al l cl) (.slice Ad d cd) := by
  obtain ⟨av, cl, cd, h1, _, _, h4, h5, h6, h7, h8, h9⟩ := h
  obtain ⟨n1, Al, l1, c1, rfl, e1⟩ := ex_cs h8
  obtain ⟨n2, Ad, l2, c2, rfl, e2⟩ := ex_cs h9
  obtain ⟨A, c, rfl, g1, g2⟩ := h7.form
  exact ⟨A, c, Al, l1, c1, Ad, l2, c2, h1, g1, g2, h7, ⟨n1, e1⟩, ⟨n2, e2⟩, h4, h5, h6⟩
theorem LtC.fut {w w' : World} {x : Lt} {av kl kd : Value} (h : LtC w x av kl kd) (hf : Fut w w') : LtC w' x av kl kd :=
  ⟨h.args.fut RTm.stays hf, by obtain ⟨n, e⟩ := h.left; exact ⟨n, RE.stays n _ _ _ _ hf e⟩, by obtain ⟨n, e⟩ := h.right; exact ⟨n, RE.stays n _ _ _ _ hf e⟩, h.kw, h.rw', h.pw⟩
def Lt.parts (x : Lt) : Nat := 1 + x.a.length + x.l.size + x.d.size
def Lt.flat (x : Lt) : Prop := x.l.depth ≤ 65537 ∧ x.d.depth ≤ 65537
def Ru.parts (r : Ru) : Nat := 1 + r.h.length + (r.b.map Lt.parts).sum
def Ru.flat (r : Ru) : Prop := ∀ x ∈ r.b, x.flat
set_option maxHeartbeats 2000000 in
set_option maxRecDepth 100000 in
theorem literalParts_any (x : Lt) (A : Option Addr) (c : Nat) (kl kd : Value) (left : Nat) (w : World) (h : LtC w x (.slice A x.a.length c) kl kd) (hc : c ≤ 2932031007402) (hcl : x.a.length ≤ c) (hleft : left ≤ 1048576) :
    Calls Try.prog 23 #[.agg (x.cs (.slice A x.a.length c) kl kd).toArray, .int .i64 left] w fun e w' => ∃ r : Nat, e = .returned (.int .i64 r) ∧ (r = left + 1 ∨ (r = x.parts ∧ r ≤ left ∧ x.flat)) ∧ Fut w w' := by
  have HL := Lib.hid h
  have hP := Lib.hid (rfl : x.parts = 1 + x.a.length + x.l.size + x.d.size)
  have hFl := Lib.hid (Iff.rfl : x.flat ↔ x.l.depth ≤ 65537 ∧ x.d.depth ≤ 65537)
  have HE1 := Lib.hid (fun (W : World) (hW : Fut w W) (lf : Nat) (hlf : lf ≤ 1048576) => by obtain ⟨n, e⟩ := (h.fut hW).left; exact exprParts_any x.l _ _ kl lf W e hlf)
  have HE2 := Lib.hid (fun (W : World) (hW : Fut w W) (lf : Nat) (hlf : lf ≤ 1048576) => by obtain ⟨n, e⟩ := (h.fut hW).right; exact exprParts_any x.d _ _ kd lf W e hlf)
  clear h
  obtain ⟨xk, xp, xa, xr, xl, xd⟩ := x
  unfold Lt.cs
  go_enter Try.func23, Try.ntmps23
  go_wp2_with fail
  have hb := heap_alloc_new w (.cells #[.int .i8 xk, .string xp, .slice A xa.length c, .int .i8 xr, .int .i8 xl.op, .string xl.t.v, .int .i8 xl.t.x.k, .int .i64 xl.t.x.n, .string xl.t.x.s, kl, .int .i8 xd.op, .string xd.t.v, .int .i8 xd.t.x.k, .int .i64 xd.t.x.n, .string xd.t.x.s, kd] 61)
  have hF := Fut.alloc w (.cells #[.int .i8 xk, .string xp, .slice A xa.length c, .int .i8 xr, .int .i8 xl.op, .string xl.t.v, .int .i8 xl.t.x.k, .int .i64 xl.t.x.n, .string xl.t.x.s, kl, .int .i8 xd.op, .string xd.t.v, .int .i8 xd.t.x.k, .int .i64 xd.t.x.n, .string xd.t.x.s, kd] 61)
  obtain ⟨w1, hw1⟩ : ∃ W, w.alloc (.cells #[.int .i8 xk, .string xp, .slice A xa.length c, .int .i8 xr, .int .i8 xl.op, .string xl.t.v, .int .i8 xl.t.x.k, .int .i64 xl.t.x.n, .string xl.t.x.s, kl, .int .i8 xd.op, .string xd.t.v, .int .i8 xd.t.x.k, .int .i64 xd.t.x.n, .string xd.t.x.s, kd] 61) = W := ⟨_, rfl⟩
  rw [hw1] at hb hF ⊢
  clear hw1
  have FB := Lib.hid hF
  clear hF
  have y2 := cell_at hb 2 (.slice A xa.length c) rfl
  have y4 := cell_at hb 4 (.int .i8 xl.op) rfl
  have y5 := cell_at hb 5 (.string xl.t.v) rfl
  have y6 := cell_at hb 6 (.int .i8 xl.t.x.k) rfl
  have y7 := cell_at hb 7 (.int .i64 xl.t.x.n) rfl
  have y8 := cell_at hb 8 (.string xl.t.x.s) rfl
  have y9 := cell_at hb 9 kl rfl
  have z0 := cell_at hb 10 (.int .i8 xd.op) rfl
  have z1 := cell_at hb 11 (.string xd.t.v) rfl
  have z2 := cell_at hb 12 (.int .i8 xd.t.x.k) rfl
  have z3 := cell_at hb 13 (.int .i64 xd.t.x.n) rfl
  have z4 := cell_at hb 14 (.string xd.t.x.s) rfl
  have z5 := cell_at hb 15 kd rfl
  clear hb
  replace hcl : xa.length ≤ c := hcl
  have hwa : IntKind.i64.wrap (1 + (xa.length : Int)) = ((1 + xa.length : Nat) : Int) := by rw [IntKind.wrap_i64]; omega
  refine wp_graph 9 [.d, .d, .d, .d, .d, .d, .d, .d, .r (fun v w' => ∃ r : Nat, v = .int .i64 r ∧ (r = left + 1 ∨ (r = xl.size ∧ r ≤ left ∧ xl.depth ≤ 65537)))] (by kernel_rfl) (by kernel_rfl) (by kernel_rfl) ?_
  simp only [List.take_succ_cons, List.take_zero, List.drop_succ_cons, List.drop_zero, Exs]
  iterate 8 apply Exists.intro
  apply Run.valG (wanted_none rfl _)
  · intro w1 h1 hk
    have q2 := h1.cell y2; have q4 := h1.cell y4; have q5 := h1.cell y5; have q6 := h1.cell y6; have q7 := h1.cell y7; have q8 := h1.cell y8; have q9 := h1.cell y9; have hg := (Fut.drew _).trans h1
    have hcw := fun b o => Below.cell (p := ⟨b, o, none⟩) h1
    go_simp; rfl
  simp only [Act.put, List.setIfInBounds_toArray, List.set_cons_succ, List.set_cons_zero, List.nil_append, List.cons_append]
  apply Run.valG (wanted_none rfl _)
  · intro w1 h1 hk
    have q2 := h1.cell y2; have q4 := h1.cell y4; have q5 := h1.cell y5; have q6 := h1.cell y6; have q7 := h1.cell y7; have q8 := h1.cell y8; have q9 := h1.cell y9; have hg := (Fut.drew _).trans h1
    have hcw := fun b o => Below.cell (p := ⟨b, o, none⟩) h1
    go_simp; rfl
  simp only [Act.put, List.setIfInBounds_toArray, List.set_cons_succ, List.set_cons_zero, List.nil_append, List.cons_append]
  apply Run.valG (wanted_none rfl _)
  · intro w1 h1 hk
    have q2 := h1.cell y2; have q4 := h1.cell y4; have q5 := h1.cell y5; have q6 := h1.cell y6; have q7 := h1.cell y7; have q8 := h1.cell y8; have q9 := h1.cell y9; have hg := (Fut.drew _).trans h1
    have hcw := fun b o => Below.cell (p := ⟨b, o, none⟩) h1
    go_simp; rfl
  simp only [Act.put, List.setIfInBounds_toArray, List.set_cons_succ, List.set_cons_zero, List.nil_append, List.cons_append]
  apply Run.valG (wanted_none rfl _)
  · intro w1 h1 hk
    have q2 := h1.cell y2; have q4 := h1.cell y4; have q5 := h1.cell y5; have q6 := h1.cell y6; have q7 := h1.cell y7; have q8 := h1.cell y8; have q9 := h1.cell y9; have hg := (Fut.drew _).trans h1
    have hcw := fun b o => Below.cell (p := ⟨b, o, none⟩) h1
    go_simp; rfl
  simp only [Act.put, List.setIfInBounds_toArray, List.set_cons_succ, List.set_cons_zero, List.nil_append, List.cons_append]
  apply Run.valG (wanted_none rfl _)
  · intro w1 h1 hk
    have q2 := h1.cell y2; have q4 := h1.cell y4; have q5 := h1.cell y5; have q6 := h1.cell y6; have q7 := h1.cell y7; have q8 := h1.cell y8; have q9 := h1.cell y9; have hg := (Fut.drew _).trans h1
    have hcw := fun b o => Below.cell (p := ⟨b, o, none⟩) h1
    go_simp; rfl
  simp only [Act.put, List.setIfInBounds_toArray, List.set_cons_succ, List.set_cons_zero, List.nil_append, List.cons_append]
  apply Run.valG (wanted_none rfl _)
  · intro w1 h1 hk
    have q2 := h1.cell y2; have q4 := h1.cell y4; have q5 := h1.cell y5; have q6 := h1.cell y6; have q7 := h1.cell y7; have q8 := h1.cell y8; have q9 := h1.cell y9; have hg := (Fut.drew _).trans h1
    have hcw := fun b o => Below.cell (p := ⟨b, o, none⟩) h1
    go_simp; rfl
  simp only [Act.put, List.setIfInBounds_toArray, List.set_cons_succ, List.set_cons_zero, List.nil_append, List.cons_append]
  apply Run.valG (wanted_none rfl _)
  · intro w1 h1 hk
    have q2 := h1.cell y2; have q4 := h1.cell y4; have q5 := h1.cell y5; have q6 := h1.cell y6; have q7 := h1.cell y7; have q8 := h1.cell y8; have q9 := h1.cell y9; have hg := (Fut.drew _).trans h1
    have hcw := fun b o => Below.cell (p := ⟨b, o, none⟩) h1
    go_simp; rfl
  simp only [Act.put, List.setIfInBounds_toArray, List.set_cons_succ, List.set_cons_zero, List.nil_append, List.cons_append]
  apply Run.valG (wanted_none rfl _)
  · intro w1 h1 hk
    have q2 := h1.cell y2; have q4 := h1.cell y4; have q5 := h1.cell y5; have q6 := h1.cell y6; have q7 := h1.cell y7; have q8 := h1.cell y8; have q9 := h1.cell y9; have hg := (Fut.drew _).trans h1
    have hcw := fun b o => Below.cell (p := ⟨b, o, none⟩) h1
    go_simp; rfl
  simp only [Act.put, List.setIfInBounds_toArray, List.set_cons_succ, List.set_cons_zero, List.nil_append, List.cons_append]
  apply Run.callR (wanted_none rfl _) (by intro v w w' hf hs; exact hs) (fun _ _ => by go_simp; exact ⟨rfl, rfl⟩)
  · intro w1 h1 hk
    have q2 := h1.cell y2; have q4 := h1.cell y4; have q5 := h1.cell y5; have q6 := h1.cell y6; have q7 := h1.cell y7; have q8 := h1.cell y8; have q9 := h1.cell y9; have hg := (Fut.drew _).trans h1
    refine (HE1.out _ (FB.out.trans hg) left hleft).mono ?_; rintro e w' ⟨r, rfl, hr, hf⟩; exact ⟨_, rfl, hf, r, rfl, hr⟩
  intro v8
  simp only [Act.put, List.setIfInBounds_toArray, List.set_cons_succ, List.set_cons_zero, List.nil_append, List.cons_append]
  apply Run.done
  intro w2 h2 hk
  obtain ⟨f8, _⟩ := hk
  obtain ⟨r, rfl, hr⟩ := f8
  have F2 := (Fut.drew _).trans h2
  have FW := Lib.hid (FB.out.trans F2)
  have x0 := F2.cell z0
  have x1 := F2.cell z1
  have x2 := F2.cell z2
  have x3 := F2.cell z3
  have x4 := F2.cell z4
  have x5 := F2.cell z5
  clear y2 y4 y5 y6 y7 y8 y9 z0 z1 z2 z3 z4 z5 h2 F2
  have hrl : r ≤ left + 1 := by rcases hr with h | h <;> omega
  have hwb : IntKind.i64.wrap (1 + (xa.length : Int) + r) = ((1 + xa.length + r : Nat) : Int) := by rw [IntKind.wrap_i64]; omega
  have hlw : IntKind.i64.wrap ((left : Int) + 1) = ((left + 1 : Nat) : Int) := by rw [IntKind.wrap_i64]; omega
  by_cases hov : 1 + xa.length + r > left
  · have hovI : (1 + (xa.length : Int) + r) > left := by omega
    go_wp2
    go_ret
    exact ⟨left + 1, by first | rfl | simp, .inl rfl, FW.out⟩
  · have hovI : ¬ (1 + (xa.length : Int) + r) > left := by omega
    have hr' := Lib.hid (hr.resolve_left (by omega))
    replace hr := Lib.hid hr
    have hcv : ((left : Int) - (1 + (xa.length : Int) + r)) = (((left - (1 + xa.length + r)) : Nat) : Int) := by omega
    have hsub : IntKind.i64.wrap ((left : Int) - (1 + (xa.length : Int) + r)) = ((left - (1 + xa.length + r) : Nat) : Int) := by rw [IntKind.wrap_i64]; omega
    replace hcv := Lib.hid hcv
    go_wp2_with fail
    try rw [hcv.out]
    refine (HE2.out _ FW.out (left - (1 + xa.length + r)) (by omega)).mono ?_
    rintro e w3 ⟨r2, rfl, hr2, f3⟩
    have hr2l : r2 ≤ left - (1 + xa.length + r) + 1 := by rcases hr2 with h | h <;> omega
    have hwc : IntKind.i64.wrap (1 + (xa.length : Int) + r + r2) = ((1 + xa.length + r + r2 : Nat) : Int) := by rw [IntKind.wrap_i64]; omega
    have F3 := Lib.hid (FW.out.trans f3)
    have hres : Hid (1 + xa.length + r + r2 = left + 1 ∨ (1 + xa.length + r + r2 = 1 + xa.length + xl.size + xd.size ∧ 1 + xa.length + r + r2 ≤ left ∧ xl.depth ≤ 65537 ∧ xd.depth ≤ 65537)) := Lib.hid (by
      have h9 := hr'.out
      rcases hr2 with h | ⟨h3, h4, h5⟩
      · left; omega
      · right; exact ⟨by omega, by omega, h9.2.2, h5⟩)
    clear f3 hr hr' hr2
    go_wp2
    go_ret
    exact ⟨1 + xa.length + r + r2, by first | rfl | simp, hres.out, F3.out⟩
end Go.Proofs.Ytcpphabehpbmlaa
/- RuleParts, BeyondRules. -/
namespace Go.Proofs.Ytcpphabehpbmlaa
open Go.RowKit
set_option linter.unusedSimpArgs false
set_option linter.unusedVariables false

theorem lt_at {M : Nat} {w : World} {A : Option Addr} {n cap : Nat} {xs : List Lt} (h : SlRep 16 M RLt w (.slice A n cap) xs) {k : Nat} (hk : k < xs.length) :
    ∃ b off A' c Al l cl Ad d cd, A = some ⟨b, off, none⟩ ∧ (∀ j v, ((xs[k]).cs (.slice A' (xs[k]).a.length c) (.slice Al l cl) (.slice Ad d cd))[j]? = some v → w.cell? ⟨b, off + k * 16 + j, none⟩ = some v) ∧ (xs[k]).a.length ≤ c ∧ c ≤ 2932031007402 ∧
      LtC w xs[k] (.slice A' (xs[k]).a.length c) (.slice Al l cl) (.slice Ad d cd) := by
  obtain ⟨A1, cap1, hv, _, _, h3⟩ := h
  obtain ⟨b, off, cs, hA, hl, hc, hr⟩ := h3 k _ (List.getElem?_eq_getElem hk)
  injection hv with hv _ _
  obtain ⟨A', c, Al, l, cl, Ad, d, cd, rfl, g1, g2, g3⟩ := lt_cs hr
  exact ⟨b, off, A', c, Al, l, cl, Ad, d, cd, hv.trans hA, fun j v hj => by rw [Nat.add_assoc]; exact hc j v hj, g1, g2, g3⟩
theorem sum_take {α : Type} (f : α → Nat) {l : List α} {k : Nat} (hk : k < l.length) : ((l.take (k + 1)).map f).sum = ((l.take k).map f).sum + f l[k] := by
  rw [List.take_succ_eq_append_getElem hk, List.map_append, List.sum_append]; simp
set_option maxHeartbeats 2000000 in
set_option maxRecDepth 100000 in
theorem ruleParts_any (x : Ru) (hv bv : Value) (w : World) (h1 : SlRep 5 2513169434916 RAr w hv x.h) (h2 : SlRep 16 651562446089 RLt w bv x.b) :
    Calls Try.prog 10 #[.agg #[.string x.p, hv, bv], .int .i64 1048576] w fun e w' => ∃ r : Nat, e = .returned (.int .i64 r) ∧ (r ≤ 1048576 → r = x.parts ∧ x.flat) ∧ r ≤ 2600000000000 ∧ Fut w w' := by
  have hP : Hid (x.parts = 1 + x.h.length + (x.b.map Lt.parts).sum) := Lib.hid rfl
  have hFl : Hid (x.flat = ∀ y ∈ x.b, y.flat) := Lib.hid rfl
  obtain ⟨Ah, ch, rfl, hh1, hh2⟩ := h1.form
  have H2 := Lib.hid h2
  obtain ⟨Ab, cb, rfl, hb1, hb2⟩ := h2.form
  clear h1 h2
  go_enter Try.func10, Try.ntmps10
  have hw0 : IntKind.i64.wrap (1 + (x.h.length : Int)) = ((1 + x.h.length : Nat) : Int) := by rw [IntKind.wrap_i64]; omega
  go_wp2_with fail
  have hbx := heap_alloc_new w (.cells #[.string x.p, .slice Ah x.h.length ch, .slice Ab x.b.length cb] 31)
  have hF0 := Fut.alloc w (.cells #[.string x.p, .slice Ah x.h.length ch, .slice Ab x.b.length cb] 31)
  obtain ⟨w1, hw1⟩ : ∃ W, w.alloc (.cells #[.string x.p, .slice Ah x.h.length ch, .slice Ab x.b.length cb] 31) = W := ⟨_, rfl⟩
  rw [hw1] at hbx hF0 ⊢
  clear hw1
  have F0 := Lib.hid hF0
  have HB := Lib.hid (cell_at hbx 2 (.slice Ab x.b.length cb) rfl)
  clear hbx hF0
  obtain ⟨q0, hq0⟩ : ∃ q0, q0 = 1 + x.h.length := ⟨_, rfl⟩
  have hq0c : (1 + (x.h.length : Int)) = (q0 : Int) := by omega
  try rw [hq0c]
  clear hw0 hq0c
  replace hq0 := Lib.hid hq0
  have hq0b : q0 ≤ 2600000000000 := by have := hq0.out; omega
  go_loopw [5, 6] (fun nn i wr => ∃ q k : Nat, k ≤ x.b.length ∧ nn = .int .i64 q ∧ i = .int .i64 k ∧ q ≤ 2600000000000 ∧ Hid (q ≤ 1048576 → q = q0 + ((x.b.take k).map Lt.parts).sum ∧ ∀ y ∈ x.b.take k, y.flat) ∧ Hid (Fut w1 wr)) (fun _ i _ => x.b.length - (intOf i).toNat)
  case atStart => exact ⟨q0, 0, Nat.zero_le _, rfl, rfl, hq0b, Lib.hid (fun _ => ⟨by simp, fun y hy => by simp at hy⟩), Lib.hid (Fut.refl _)⟩
  case round =>
    obtain ⟨q, k, hk, rfl, rfl, hqb, hI, hF⟩ := hrel
    have c2 := hF.out.cell HB.out
    by_cases hlt : k < x.b.length
    · have hltI : (k : Int) < x.b.length := by omega
      have e0 : (0 : Int) ≤ k ∧ (k : Int) < x.b.length := by omega
      by_cases hq : q ≤ 1048576
      · have hqI : (q : Int) ≤ 1048576 := by omega
        obtain ⟨b, off, A', c, Al, l', cl, Ad, d', cd, rfl, hcs, g1, g2, g3⟩ := lt_at H2.out hlt
        have hst := sum_take Lt.parts hlt
        have hnx : x.b.take (k + 1) = x.b.take k ++ [x.b[k]] := List.take_succ_eq_append_getElem hlt
        have hIq := hI.out hq
        generalize x.b[k] = z at *
        have HC := Lib.hid (g3.fut (F0.out.trans hF.out))
        have hF9 := Lib.hid (F0.out.trans hF.out)
        have y0 : wr.cell? ⟨b, off + k * 16, none⟩ = some (.int .i8 z.k) := hF9.out.cell (hcs 0 _ rfl)
        have y1 := hF9.out.cell (hcs 1 _ rfl)
        have y2 := hF9.out.cell (hcs 2 _ rfl)
        have y3 := hF9.out.cell (hcs 3 _ rfl)
        have y4 := hF9.out.cell (hcs 4 _ rfl)
        have y5 := hF9.out.cell (hcs 5 _ rfl)
        have y6 := hF9.out.cell (hcs 6 _ rfl)
        have y7 := hF9.out.cell (hcs 7 _ rfl)
        have y8 := hF9.out.cell (hcs 8 _ rfl)
        have y9 := hF9.out.cell (hcs 9 _ rfl)
        have y10 := hF9.out.cell (hcs 10 _ rfl)
        have y11 := hF9.out.cell (hcs 11 _ rfl)
        have y12 := hF9.out.cell (hcs 12 _ rfl)
        have y13 := hF9.out.cell (hcs 13 _ rfl)
        have y14 := hF9.out.cell (hcs 14 _ rfl)
        have y15 := hF9.out.cell (hcs 15 _ rfl)
        clear hcs g3
        obtain ⟨zk, zp, za, zr, zl, zd⟩ := z
        have hsub : ((1048576 : Int) - q) = ((1048576 - q : Nat) : Int) := by omega
        have HW := Lib.hid (fun W (hW : Fut wr W) => literalParts_any ⟨zk, zp, za, zr, zl, zd⟩ A' c (.slice Al l' cl) (.slice Ad d' cd) (1048576 - q) W (HC.out.fut hW) g2 g1 (by omega))
        dsimp only [Lt.cs] at y0 y1 y2 y3 y4 y5 y6 y7 y8 y9 y10 y11 y12 y13 y14 y15
        replace hst := Lib.hid hst
        replace hnx := Lib.hid hnx
        replace hIq := Lib.hid hIq
        go_wp2_with fail
        try rw [hsub]
        refine (HW.out _ (Fut.refl _)).mono ?_
        rintro e w3 ⟨r, rfl, hr, f3⟩
        have hrl : r ≤ 1048576 - q + 1 := by rcases hr with h | h <;> omega
        have hwr : IntKind.i64.wrap ((q : Int) + r) = ((q + r : Nat) : Int) := by rw [IntKind.wrap_i64]; omega
        have hI2 : Hid (q + r ≤ 1048576 → q + r = q0 + ((x.b.take (k + 1)).map Lt.parts).sum ∧ ∀ y ∈ x.b.take (k + 1), y.flat) := Lib.hid fun h => by
          have h8 := hr.resolve_left (by omega)
          have h9 := hIq.out
          rw [hst.out, hnx.out]
          refine ⟨by omega, fun y hy => ?_⟩
          rcases List.mem_append.1 hy with hy | hy
          · exact h9.2 y hy
          · rw [List.mem_singleton] at hy; subst hy; exact h8.2.2
        have F3 := Lib.hid (hF.out.trans f3)
        clear f3 hr
        go_wp2
        go_roundw
        case rel => exact ⟨q + r, k + 1, by omega, by first | rfl | go_num, by go_num, by omega, hI2, F3⟩
        case measure => simp [intOf] <;> omega
      · have hqI : ¬ (q : Int) ≤ 1048576 := by omega
        go_wp2
        go_ret
        exact ⟨q, rfl, fun h => absurd h hq, hqb, F0.out.trans hF.out⟩
    · obtain rfl : k = x.b.length := by omega
      have hres : Hid (q ≤ 1048576 → q = x.parts ∧ x.flat) := Lib.hid fun h => by
        have := hI.out h
        rw [List.take_length] at this
        exact ⟨by rw [hP.out, ← hq0.out]; exact this.1, by rw [hFl.out]; exact this.2⟩
      go_wp2
      go_ret
      exact ⟨q, rfl, hres.out, hqb, F0.out.trans hF.out⟩
end Go.Proofs.Ytcpphabehpbmlaa
/- BeyondRules. -/
namespace Go.Proofs.Ytcpphabehpbmlaa
open Go.RowKit
set_option linter.unusedSimpArgs false
set_option linter.unusedVariables false

abbrev Rus : World → Value → List Ru → Prop := SlRep 3 2199023255552 RRu
theorem ru_at {M : Nat} {w : World} {A : Option Addr} {n cap : Nat} {xs : List Ru} (h : SlRep 3 M RRu w (.slice A n cap) xs) {k : Nat} (hk : k < xs.length) :
    ∃ b off Ah ch Ab cb, A = some ⟨b, off, none⟩ ∧ w.cell? ⟨b, off + k * 3, none⟩ = some (.string (xs[k]).p) ∧ w.cell? ⟨b, off + k * 3 + 1, none⟩ = some (.slice Ah (xs[k]).h.length ch) ∧ w.cell? ⟨b, off + k * 3 + 2, none⟩ = some (.slice Ab (xs[k]).b.length cb) ∧
      (xs[k]).p.size ≤ 140737488351232 ∧ SlRep 5 2513169434916 RAr w (.slice Ah (xs[k]).h.length ch) (xs[k]).h ∧ SlRep 16 651562446089 RLt w (.slice Ab (xs[k]).b.length cb) (xs[k]).b := by
  obtain ⟨A1, cap1, hv, _, _, h3⟩ := h
  obtain ⟨b, off, cs, hA, hl, hc, hr⟩ := h3 k _ (List.getElem?_eq_getElem hk)
  injection hv with hv _ _
  obtain ⟨hv', bv, rfl, g1, g2, g3⟩ := hr
  obtain ⟨Ah, ch, rfl, _, _⟩ := g2.form
  obtain ⟨Ab, cb, rfl, _, _⟩ := g3.form
  exact ⟨b, off, Ah, ch, Ab, cb, hv.trans hA, hc 0 _ rfl, hc 1 _ rfl, hc 2 _ rfl, g1, g2, g3⟩
/-- Rules within the bound. -/
def Within (l : List Ru) : Prop := (l.map Ru.parts).sum ≤ 1048576 ∧ ∀ r ∈ l, r.flat
set_option maxHeartbeats 2000000 in
set_option maxRecDepth 100000 in
theorem beyondR_any {M : Nat} (a : Value) (l : List Ru) (w : World) (h : SlRep 3 M RRu w a l) (hM : M ≤ 9223372036854775807) :
    Calls Try.prog 4 #[a] w fun e w' => ∃ b, e = .returned (.bool b) ∧ (b = false → Within l) ∧ Fut w w' := by
  have H := Lib.hid h
  obtain ⟨A, c, rfl, hc1, hc2⟩ := h.form
  clear h
  go_enter Try.func4, Try.ntmps4
  go_wp2_with fail
  go_loopw [3, 4] (fun nn i wr => ∃ q k : Nat, k ≤ l.length ∧ nn = .int .i64 q ∧ i = .int .i64 k ∧ q ≤ 1048576 ∧ Hid (q = ((l.take k).map Ru.parts).sum ∧ ∀ r ∈ l.take k, r.flat) ∧ Hid (Fut w wr)) (fun _ i _ => l.length - (intOf i).toNat)
  case atStart => exact ⟨0, 0, Nat.zero_le _, rfl, rfl, Nat.zero_le _, Lib.hid ⟨by simp, fun r hr => by simp at hr⟩, Lib.hid (Fut.refl _)⟩
  case round =>
    obtain ⟨q, k, hk, rfl, rfl, hqb, hI, hF⟩ := hrel
    by_cases hlt : k < l.length
    · have hltI : (k : Int) < l.length := by omega
      have e0 : (0 : Int) ≤ k ∧ (k : Int) < l.length := by omega
      obtain ⟨b, off, Ah, ch, Ab, cb, rfl, y0, y1, y2, _, g1, g2⟩ := ru_at (H.out.fut RRu.stays hF.out) hlt
      have hst := Lib.hid (sum_take Ru.parts hlt)
      have hnx : Hid (l.take (k + 1) = l.take k ++ [l[k]]) := Lib.hid (List.take_succ_eq_append_getElem hlt)
      generalize l[k] = z at *
      have HW := Lib.hid (ruleParts_any z (.slice Ah z.h.length ch) (.slice Ab z.b.length cb) wr g1 g2)
      clear g1 g2
      go_wp2_with fail
      refine HW.out.mono ?_
      rintro e w3 ⟨r, rfl, hr, hrb, f3⟩
      have hwr : IntKind.i64.wrap ((q : Int) + r) = ((q + r : Nat) : Int) := by rw [IntKind.wrap_i64]; omega
      have F3 := Lib.hid (hF.out.trans f3)
      clear f3
      by_cases hov : q + r > 1048576
      · have hovI : ((q : Int) + r) > 1048576 := by omega
        clear hr
        go_wp2
        go_ret
        exact ⟨true, by first | rfl | simp, (fun h => absurd h (by decide)), F3.out⟩
      · have hovI : ¬ ((q : Int) + r) > 1048576 := by omega
        have hr' := hr (by omega)
        have hI2 : Hid (q + r = ((l.take (k + 1)).map Ru.parts).sum ∧ ∀ y ∈ l.take (k + 1), y.flat) := Lib.hid (by
          have h9 := hI.out
          rw [hst.out, hnx.out]
          refine ⟨by omega, fun y hy => ?_⟩
          rcases List.mem_append.1 hy with hy | hy
          · exact h9.2 y hy
          · rw [List.mem_singleton] at hy; subst hy; exact hr'.2)
        clear hr hr'
        go_wp2
        go_roundw
        case rel => exact ⟨q + r, k + 1, by omega, by first | rfl | go_num, by go_num, by omega, hI2, F3⟩
        case measure => simp [intOf] <;> omega
    · obtain rfl : k = l.length := by omega
      have hres : Within l := by
        have := hI.out
        rw [List.take_length] at this
        exact ⟨by omega, this.2⟩
      go_wp2
      go_ret
      exact ⟨false, rfl, fun _ => hres, hF.out⟩
end Go.Proofs.Ytcpphabehpbmlaa
/- Copies with a mark behind: TwinValues, LeftValues. -/
namespace Go.Proofs.Ytcpphabehpbmlaa
open Go.RowKit
set_option linter.unusedSimpArgs false
set_option linter.unusedVariables false

/-! ### Copies with a mark behind -/
def markV : V := ⟨99, 777777, ⟨#[]⟩⟩
theorem infoV : (Try.prog.info? 36).map (fun i => (i.zero, i.size, i.bytes)) = some (some (.agg #[.int .i8 0, .int .i64 0, .string ⟨#[]⟩]), 3, 32) := by kernel_rfl
/-- A copy that TwinValues makes. -/
def TwinR (B : Nat) (w : World) (v : Value) (xs : List V) : Prop :=
  ∃ g, B ≤ g ∧ v = .slice (some ⟨g, 0, none⟩) xs.length (xs.length + 1) ∧ BlkF w g 36 ((xs.length + 1) * 3) (flat (xs ++ [markV]))
theorem TwinR.fut {B : Nat} {w w' : World} {v : Value} {xs : List V} (h : TwinR B w v xs) (hf : Fut w w') : TwinR B w' v xs := by
  obtain ⟨g, h1, h2, h3⟩ := h
  exact ⟨g, h1, h2, h3.fut hf⟩
theorem flat_left (xs ys : List V) (j : Nat) (h : j < xs.length * 3) : flat (xs ++ ys) j = flat xs j := by
  unfold flat
  rw [List.getElem?_append_left (by omega)]
theorem TwinR.vals {B : Nat} {w : World} {v : Value} {xs : List V} (h : TwinR B w v xs) (hok : ∀ x ∈ xs, x.ok) (hm : xs.length < 4398046511104) : Vals w v xs := by
  obtain ⟨g, h1, rfl, h3⟩ := h
  exact vals_of_blk h3 (by omega) (fun j hj => flat_left _ _ _ hj) (by omega) (by omega) hok
theorem Vals.oks {w : World} {v : Value} {xs : List V} (h : Vals w v xs) : ∀ x ∈ xs, x.ok := by
  obtain ⟨A, cap, _, _, _, h3⟩ := h
  intro x hx
  obtain ⟨i, hi⟩ := List.getElem?_of_mem hx
  obtain ⟨_, _, _, _, _, _, _, hok⟩ := h3 i x hi
  exact hok

def zeroV : V := ⟨0, 0, ⟨#[]⟩⟩
theorem flat_rep (xs : List V) (k n : Nat) (hk : k < xs.length) (j : Nat) (hj : j < n * 3) (hn : xs.length ≤ n) :
    (if j = k * 3 + 2 then Value.string (xs[k]).s else if j = k * 3 + 1 then .int .i64 (xs[k]).n else if j = k * 3 then .int .i8 (xs[k]).k else flat (xs.take k ++ List.replicate (n - k) zeroV) j) =
      flat (xs.take (k + 1) ++ List.replicate (n - (k + 1)) zeroV) j := by
  obtain ⟨f0, f1, f2⟩ := flat_at xs k hk
  by_cases hjk : j / 3 = k
  · have hl : flat (xs.take (k + 1) ++ List.replicate (n - (k + 1)) zeroV) j = flat xs j := by
      rw [flat_left _ _ _ (by rw [List.length_take]; omega)]
      unfold flat
      rw [List.getElem?_take, if_pos (by omega)]
    rw [hl]
    rcases (by omega : j = k * 3 + 2 ∨ j = k * 3 + 1 ∨ j = k * 3) with rfl | rfl | rfl
    · rw [if_pos rfl, f2]
    · rw [if_neg (by omega), if_pos rfl, f1]
    · rw [if_neg (by omega), if_neg (by omega), if_pos rfl, f0]
  · rw [if_neg (by omega), if_neg (by omega), if_neg (by omega)]
    rcases Nat.lt_or_ge (j / 3) k with h | h
    · rw [flat_left _ _ _ (by rw [List.length_take]; omega), flat_left _ _ _ (by rw [List.length_take]; omega)]
      unfold flat
      rw [List.getElem?_take, List.getElem?_take, if_pos (by omega), if_pos (by omega)]
    · unfold flat
      rw [List.getElem?_append_right (by rw [List.length_take]; omega), List.getElem?_append_right (by rw [List.length_take]; omega), List.length_take, List.length_take,
        List.getElem?_replicate, List.getElem?_replicate, if_pos (by omega), if_pos (by omega)]
theorem flat_mark (xs : List V) (j : Nat) (hj : j < (xs.length + 1) * 3) :
    (if j = xs.length * 3 + 2 then Value.string markV.s else if j = xs.length * 3 + 1 then .int .i64 markV.n else if j = xs.length * 3 then .int .i8 markV.k else flat (xs.take xs.length ++ List.replicate (xs.length + 1 - xs.length) zeroV) j) =
      flat (xs ++ [markV]) j := by
  rw [List.take_length, show xs.length + 1 - xs.length = 1 by omega]
  rcases Nat.lt_or_ge j (xs.length * 3) with h | h
  · rw [if_neg (by omega), if_neg (by omega), if_neg (by omega), flat_left _ _ _ h, flat_left _ _ _ h]
  · obtain ⟨f0, f1, f2⟩ := flat_at (xs ++ [markV]) xs.length (by simp)
    simp only [List.getElem_concat_length] at f0 f1 f2
    rcases (by omega : j = xs.length * 3 + 2 ∨ j = xs.length * 3 + 1 ∨ j = xs.length * 3) with rfl | rfl | rfl
    · rw [if_pos rfl, f2]
    · rw [if_neg (by omega), if_pos rfl, f1]
    · rw [if_neg (by omega), if_neg (by omega), if_pos rfl, f0]

theorem made_zero (n j : Nat) (hj : j < n * 3) : (madeCells #[Value.int .i8 0, .int .i64 0, .string ⟨#[]⟩] (n * 3)).getD j undef = flat (List.replicate n zeroV) j := by
  unfold flat
  rw [List.getElem?_replicate, if_pos (by omega)]
  simp only [madeCells, Option.map_some, Option.getD_some, V.cells, zeroV]
  simp [hj]
  rcases (by omega : j % 3 = 0 ∨ j % 3 = 1 ∨ j % 3 = 2) with h | h | h <;> rw [h] <;> rfl

end Go.Proofs.Ytcpphabehpbmlaa
/- Facts: BeyondFacts, TwinFact, LeftFact; the order of facts, of the program and of the reference. -/
namespace Go.Proofs.Ytcpphabehpbmlaa
open Go.RowKit
set_option linter.unusedSimpArgs false
set_option linter.unusedVariables false

theorem Facs.at_ {w : World} {A : Option Addr} {n cap : Nat} {fs : List Fc} (h : Facs w (.slice A n cap) fs) {k : Nat} (hk : k < fs.length) :
    ∃ b off A' cap', A = some ⟨b, off, none⟩ ∧ (fs[k]).p.size ≤ 140737488351232 ∧ w.cell? ⟨b, off + k * 2, none⟩ = some (.string (fs[k]).p) ∧ w.cell? ⟨b, off + k * 2 + 1, none⟩ = some (.slice A' (fs[k]).a.length cap') ∧ (fs[k]).a.length ≤ cap' ∧ cap' ≤ 4398046511104 ∧ Vals w (.slice A' (fs[k]).a.length cap') (fs[k]).a := by
  obtain ⟨A1, cap1, hv, _, _, h3⟩ := h
  obtain ⟨b, off, cs, hA, hl, hc, u, hr, hp, hu⟩ := h3 k _ (List.getElem?_eq_getElem hk)
  injection hv with hv _ _
  subst hr
  obtain ⟨A', cap', rfl, h4, h5⟩ := SlRep.form hu
  exact ⟨b, off, A', cap', hv.trans hA, hp, hc 0 _ rfl, hc 1 _ rfl, h4, h5, hu.vals⟩
def parts : List Fc → Nat
  | [] => 0
  | f :: r => 1 + f.a.length + parts r
theorem parts_take (fs : List Fc) (k : Nat) (hk : k < fs.length) : parts (fs.take (k + 1)) = parts (fs.take k) + (1 + (fs[k]).a.length) := by
  induction fs generalizing k with
  | nil => simp at hk
  | cons f r ih =>
    cases k with
    | zero => simp [parts]
    | succ k => simp only [List.take_succ_cons, parts, List.getElem_cons_succ]; rw [ih k (by simpa using hk)]; omega
theorem parts_le (fs : List Fc) (k : Nat) : parts (fs.take k) ≤ parts fs := by
  induction fs generalizing k with
  | nil => simp
  | cons f r ih =>
    cases k with
    | zero => simp [parts]
    | succ k => simp only [List.take_succ_cons, parts]; have := ih k; omega

def Fc.cells (f : Fc) (u : Value) : List Value := [.string f.p, u]
def cmpF (f g : Fc) : Int := firstNZ [cmpS f.p g.p, cmpT f.a g.a]
theorem cmpF_spec (f g : Fc) : cmpF f g = if Op.bytesLess f.p.toList g.p.toList = true then -1 else if Op.bytesLess g.p.toList f.p.toList = true then 1 else cmpT f.a g.a := by
  rw [cmpBytes_less, cmpBytes_less, ByteArray.toList_eq, ByteArray.toList_eq]
  unfold cmpF cmpS
  rw [cmpBytes_swap f.p.data.toList g.p.data.toList]
  simp only [decide_eq_true_eq, firstNZ]
  rcases cmpBytes_range f.p.data.toList g.p.data.toList with h | h | h
  · simp [h]
  · simp only [h]
    by_cases h0 : cmpT f.a g.a = 0 <;> simp [h0]
  · simp [h]
end Go.Proofs.Ytcpphabehpbmlaa
/- The orders are orders: of values, of tuples, of facts. Plain; no program. -/
namespace Go.Proofs.Ytcpphabehpbmlaa
open Go.RowKit
set_option linter.unusedSimpArgs false
set_option linter.unusedVariables false

def cmpU (a b : UInt8) : Int := if a < b then -1 else if b < a then 1 else 0
theorem ordU : Ord3 cmpU := by
  have key : ∀ a b, cmpU a b = cmpI a.toNat b.toNat := fun a b => by
    unfold cmpU cmpI
    simp only [UInt8.lt_iff_toNat_lt]
    (repeat' split) <;> omega
  constructor
  · intro x y; rw [key]; exact ordI.rng _ _
  · intro x y; rw [key, key]; exact ordI.swap _ _
  · intro x y
    rw [key, ordI.zero]
    exact ⟨fun e => UInt8.toNat_inj.1 (by omega), fun e => by rw [e]⟩
  · intro x y z; rw [key, key, key]; exact ordI.tr _ _ _
theorem cmpBytes_lcmp : ∀ a b : List UInt8, Lib.compareBytes a b = lcmp cmpU a b
  | [], [] => rfl
  | [], _ :: _ => rfl
  | _ :: _, [] => rfl
  | a :: r, b :: q => by
    simp only [Lib.compareBytes, lcmp, cmpU]
    by_cases h1 : a < b
    · simp [h1]
    · by_cases h2 : b < a
      · simp [h1, h2]
      · simp [h1, h2, cmpBytes_lcmp r q]
theorem ordS : Ord3 cmpS := by
  have h := lcmp_ord ordU
  have key : ∀ a b, cmpS a b = lcmp cmpU a.data.toList b.data.toList := fun a b => cmpBytes_lcmp _ _
  exact ⟨fun x y => by rw [key]; exact h.rng _ _, fun x y => by rw [key, key]; exact h.swap _ _,
    fun x y => by rw [key, h.zero]; exact ⟨fun e => WideShapes.bytes_inj e, fun e => by rw [e]⟩, fun x y z => by rw [key, key, key]; exact h.tr _ _ _⟩
theorem ordV : Ord3 cmpV := by
  have h2 : Ord3 (fun x y : Int × ByteArray => lex (cmpI x.1 y.1) (cmpS x.2 y.2)) := lex_ord ordI ordS (·.1) (·.2) fun x y e1 e2 => Prod.ext e1 e2
  have h3 : Ord3 (fun x y : V => lex (cmpI x.k y.k) (lex (cmpI x.n y.n) (cmpS x.s y.s))) := lex_ord (γ := V) ordI h2 (·.k) (fun x => (x.n, x.s)) fun x y e1 e2 => by
    obtain ⟨k, n, s⟩ := x
    obtain ⟨k', n', s'⟩ := y
    simp only [Prod.mk.injEq] at e1 e2
    obtain ⟨e2, e3⟩ := e2
    subst e1; subst e2; subst e3; rfl
  have key : cmpV = fun x y : V => lex (cmpI x.k y.k) (lex (cmpI x.n y.n) (cmpS x.s y.s)) := by
    funext x y
    simp only [cmpV, firstNZ, lex]
    by_cases a : cmpS x.s y.s = 0 <;> simp [a]
  rw [key]; exact h3
theorem ordT : Ord3 cmpT := by
  have key : ∀ x y, cmpT x y = lcmp cmpV x y := by
    intro x
    induction x with
    | nil => intro y; cases y <;> rfl
    | cons a r ih =>
      intro y
      cases y with
      | nil => rfl
      | cons b q => simp only [cmpT, lcmp, ih]
  have h := lcmp_ord ordV
  exact ⟨fun x y => by rw [key]; exact h.rng _ _, fun x y => by rw [key, key]; exact h.swap _ _, fun x y => by rw [key]; exact h.zero _ _, fun x y z => by rw [key, key, key]; exact h.tr _ _ _⟩
theorem ordF : Ord3 cmpF := by
  have h3 : Ord3 (fun x y : Fc => lex (cmpS x.p y.p) (cmpT x.a y.a)) := lex_ord (γ := Fc) ordS ordT (·.p) (·.a) fun x y e1 e2 => by
    obtain ⟨p, a⟩ := x
    obtain ⟨p', a'⟩ := y
    simp only at e1 e2
    subst e1; subst e2; rfl
  have key : cmpF = fun x y : Fc => lex (cmpS x.p y.p) (cmpT x.a y.a) := by
    funext x y
    simp only [cmpF, firstNZ, lex]
    by_cases a : cmpT x.a y.a = 0 <;> simp [a]
  rw [key]; exact h3

end Go.Proofs.Ytcpphabehpbmlaa
/- value.Arith, case by case; num, word1, number, text, fits. -/
namespace Go.Proofs.Ytcpphabehpbmlaa
open Go.RowKit
set_option linter.unusedSimpArgs false
set_option linter.unusedVariables false

def numV (n : Int) : V := ⟨1, n, ⟨#[]⟩⟩
def txtV (s : ByteArray) : V := ⟨2, 0, s⟩
def noV : V := ⟨0, 0, ⟨#[]⟩⟩
def pairV (x : V) (b : Bool) : Value := .tuple #[x.val, .bool b]

def good (K : Int) (x : V) : Bool := x.k == K && chk x.k x.n x.s == 0
def fitsV (n : Nat) (K : Int) (xs : List V) : Bool := decide (xs.length = n) && xs.all (good K)

/-! ### What does not fit gives nothing. -/
end Go.Proofs.Ytcpphabehpbmlaa
/- value.name. -/
namespace Go.Proofs.Ytcpphabehpbmlaa
open Go.RowKit
set_option linter.unusedSimpArgs false
set_option linter.unusedVariables false

def letterN (c : Nat) : Bool := (decide (97 ≤ c) && decide (c ≤ 122)) || (decide (65 ≤ c) && decide (c ≤ 90)) || (decide (48 ≤ c) && decide (c ≤ 57)) || c == 95
def keyB (l : List UInt8) : Bool := l == [110, 111, 116] || l == [99, 111, 117, 110, 116] || l == [115, 117, 109] || l == [109, 105, 110] || l == [109, 97, 120] || l == [108, 101, 110] || l == [99, 104, 97, 114, 115] || l == [98, 97, 99, 107]
def nameV (s : ByteArray) : Bool := decide (0 < s.size) && decide (s.size ≤ 120) && (decide (97 ≤ (s.data.getD 0 0).toNat) && decide ((s.data.getD 0 0).toNat ≤ 122)) && s.data.toList.all (fun b => letterN b.toNat) && !keyB s.toList

theorem head_at (s : ByteArray) (h : 0 < s.size) : s.data[0]?.getD 0 = s[0] := by
  have : 0 < s.data.size := h
  rw [Array.getElem?_eq_getElem this]
  rfl

end Go.Proofs.Ytcpphabehpbmlaa
