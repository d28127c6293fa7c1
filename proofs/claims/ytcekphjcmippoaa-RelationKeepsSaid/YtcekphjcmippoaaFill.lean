/- A row laid into a slice or a struct that is just built. No program. -/
import Derived.Test.YtcekphjcmippoaaRowW
import Derived.Great.BuildSlice
namespace Go.Proofs.Ytcekphjcmippoaa
open Go.RowKit Go.WideMaps
set_option linter.unusedSimpArgs false
set_option linter.unusedVariables false

theorem fold_put (o : Nat) : ∀ (l : List Value) (k : Nat) (arr : Array Value), ∃ arr' : Array Value, (l.zipIdx k).foldl (fun cs p => cs.setIfInBounds (o + p.2) p.1) arr = arr' ∧ arr'.size = arr.size ∧
    ∀ j, arr'[j]? = if o + k ≤ j ∧ j < o + k + l.length ∧ j < arr.size then l[j - (o + k)]? else arr[j]?
  | [], k, arr => ⟨arr, rfl, rfl, fun j => by rw [if_neg (by simp; omega)]⟩
  | v :: l, k, arr => by
    obtain ⟨arr', h1, h2, h3⟩ := fold_put o l (k + 1) (arr.setIfInBounds (o + k) v)
    refine ⟨arr', by rw [List.zipIdx_cons, List.foldl_cons]; exact h1, by rw [h2]; simp, fun j => ?_⟩
    rw [h3]
    simp only [Array.size_setIfInBounds, List.length_cons]
    by_cases h4 : j = o + k
    · subst h4
      rw [if_neg (by omega)]
      by_cases h5 : o + k < arr.size
      · rw [if_pos (by omega)]; simp [h5]
      · rw [if_neg (by omega)]; simp [h5]
    · rw [Array.getElem?_setIfInBounds_ne (Ne.symm h4)]
      by_cases h5 : o + (k + 1) ≤ j ∧ j < o + (k + 1) + l.length ∧ j < arr.size
      · rw [if_pos h5, if_pos (by omega), show j - (o + k) = (j - (o + (k + 1))) + 1 by omega, List.getElem?_cons_succ]
      · rw [if_neg h5, if_neg (by omega)]
/-- One part, at offset off, of size sz. -/
theorem fill_one {place : Nat → Option (Nat × Nat)} {i off sz : Nat} {v : Value} {zero : Array Value} (hp : place i = some (off, sz)) (hs : v.cells.size = sz) (hz : off + sz ≤ zero.size) (rest : List (Nat × Value)) :
    ∃ arr' : Array Value, Instr.fill place zero ((i, v) :: rest) = Instr.fill place arr' rest ∧ arr'.size = zero.size ∧ ∀ j, arr'[j]? = if off ≤ j ∧ j < off + sz then v.cells[j - off]? else zero[j]? := by
  obtain ⟨arr', h1, h2, h3⟩ := fold_put off v.cells.toList 0 zero
  refine ⟨arr', ?_, h2, fun j => ?_⟩
  · have h4 : v.cells.zipIdx.foldl (fun cs (c, j) => cs.setIfInBounds (off + j) c) zero = arr' := by
      rw [← h1, ← Array.foldl_toList, Array.toList_zipIdx]
    conv => lhs; unfold Instr.fill
    simp only [hp]
    rw [if_neg (by simp [hs]; omega), h4]
  · rw [h3]
    simp only [Nat.add_zero, Array.length_toList, hs, Array.getElem?_toList]
    by_cases h5 : off ≤ j ∧ j < off + sz
    · rw [if_pos h5, if_pos (by omega)]
    · rw [if_neg h5, if_neg (by omega)]
section
variable {P : Program} {t k e : TypeId} {w : World} {o : Oper} {a : Act} {x : Rw}
/-- A list of one row. -/
theorem exec_one_R (T : RowTy P k e) (hz : ∃ z, (P.info? k).bind (·.zero) = some z ∧ z.cells.size = 24) (ht : P.underlying t = some (.slice k)) (y : Operand) (ho : o.op = .buildSlice t 1 #[(0, y)]) (hy : a.eval y = Rw.val x) (hx : Rw.ok x) :
    (execOp a.eval o).run P w = .ok (.value (.slice (some ⟨w.heap.size, 0, none⟩) 1 1)) (w.alloc (.cells (Rw.cells x).toArray k)) := by
  have hi := T.hi
  cases hq : P.info? k with
  | none => simp [hq] at hi
  | some ie =>
    have hs : ie.size = 24 := by simpa [hq] using hi
    obtain ⟨z, hz1, hz2⟩ := hz
    rw [hq] at hz1
    obtain ⟨arr', h1, h2, h3⟩ := fill_one (place := fun i => some (i * 24, 24)) (i := 0) (off := 0) (sz := 24) (v := Rw.val x) (zero := ((Array.range (1 * 24)).map (z.cells[· % z.cells.size]!))) rfl (by simp [Rw.val_cells, Rw.cells_len hx]) (by simp) []
    have e1 : arr' = (Rw.cells x).toArray := by
      refine Array.ext_getElem? fun j => ?_
      rw [h3]
      by_cases hj : j < 24
      · rw [if_pos (by omega)]; simp [Rw.val_cells]
      · rw [if_neg (by omega)]
        have := Rw.cells_len hx
        rw [Array.getElem?_eq_none (by simp; omega), Array.getElem?_eq_none (by simp; omega)]
    have hf : Instr.fill (fun i => some (i * 24, 24)) ((Array.range (1 * 24)).map (z.cells[· % z.cells.size]!)) [(0, Rw.val x)] = some (Rw.cells x).toArray := by rw [h1, e1]; rfl
    have hrun := run_buildSlice (P := P) w t k 1 #[(0, Rw.val x)] (Rw.cells x).toArray ie z ht hq (by simpa using hz1) (by rw [hs]; omega) (by rw [hs]; omega) (by rw [hs]; exact hf)
    unfold execOp
    simp only [ho, List.map_toArray, List.map_cons, List.map_nil, hy, hrun, Sem.run_bind, Sem.run_pure, Result.andThen_ok]
end
end Go.Proofs.Ytcekphjcmippoaa
