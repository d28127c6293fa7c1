/- RelT -/
import Derived.Test.YtkdnplebgmmclaaC12
/- places.take; Remove. -/
namespace Go.Proofs.Ytkdnplebgmmclaa
open Go.RowKit Go.WideMaps
set_option linter.unusedSimpArgs false
set_option linter.unusedVariables false

theorem wpList_clear_M {P : Program} {k t ev : TypeId} {ops : Array Oper} {rest : List Oper} {o : Oper} {a : Act} {Q : Exit → Act → World → Prop} {w : World} {b : Nat} {f : Rw → Option Int} (hgd : Region.wanted o (yielded ops a.tmps) = true) (ht : P.underlying t = some (.map k ev)) (m : Operand)
    (ho : o.op = .call { callee := .builtin .clear, args := #[m], argTypes := #[t] }) (hm : a.eval m = .map (some b)) (h : MapR w b f)
    (hk : ∀ w', MapR w' b (fun _ => none) → w.grownBy w' (some b) → wpList P ops Q rest (a.put o.dst (.tuple #[])) w') : wpList P ops Q (o :: rest) a w := by
  obtain ⟨w', hr, h2, h3⟩ := h.clear ht o.type
  refine wpList_of_run hgd (w' := w') ?_ (hk w' h2 h3)
  unfold execOp
  simp only [ho, resolve, invoke, builtin, Sem.run_bind, Sem.run_pure, Result.andThen_ok, List.map_toArray, List.map_cons, List.map_nil, hm, hr]
theorem wpList_store_1 {P : Program} {t : TypeId} {ops : Array Oper} {rest : List Oper} {o : Oper} {a : Act} {Q : Exit → Act → World → Prop} {w w' : World} {g i : Nat} {v u : Value} (hgd : Region.wanted o (yielded ops a.tmps) = true) (x y : Operand)
    (ho : o.op = .store t x y) (hx : a.eval x = .pointer (some ⟨g, i, none⟩)) (hy : a.eval y = v) (hi : (P.info? t).map (·.size) = some 1) (h1 : v.oneCell' = true) (hc : w.cell? ⟨g, i, none⟩ = some u) (hz : w.frozen? ⟨g, i, none⟩ = false)
    (hw : w.setCell ⟨g, i, none⟩ v = w') (h : wpList P ops Q rest (a.put o.dst undef) w') : wpList P ops Q (o :: rest) a w := by
  subst hw
  refine wpList_of_skip hgd ?_ h
  have hcl : v.cells = #[v] := by
    unfold Value.cells
    unfold Value.oneCell' at h1
    split at h1 <;> simp_all
  have h2 := run_storeCells_cells (P := P) g i [v] 0 w (fun j hj => by
    simp at hj; subst hj; show (w.cell? ⟨g, i, none⟩).isSome = true; rw [hc]; rfl) (fun j hj => by simp at hj; subst hj; exact hz) (fun u hu => by simp at hu; subst hu; exact h1)
  simp only [Nat.add_zero, World.setCells] at h2
  unfold execOp
  cases hq : P.info? t with
  | none => simp [hq] at hi
  | some ii =>
    have hs : ii.size = 1 := by simpa [hq] using hi
    simp [ho, hx, hy, Instr.storeAt, Instr.sureAddr, storeVar, sizeOf, typeInfo, hq, hs, hcl, h2]
theorem rws_take {w : World} {A : Option Addr} {cap : Nat} {xs : List Rw} (h : Rws w (.slice A xs.length cap) xs) {k : Nat} (hk : k ≤ xs.length) : Rws w (.slice A k cap) (xs.take k) := by
  obtain ⟨A1, cap1, hv, h1, h2, h3⟩ := h
  injection hv with e1 _ e2
  refine ⟨A, cap, by rw [List.length_take, Nat.min_eq_left hk], by rw [List.length_take]; omega, by omega, fun i x hx => ?_⟩
  rw [e1]
  rw [List.getElem?_take] at hx
  split at hx
  · exact h3 i x hx
  · cases hx
theorem rws_drop {w : World} {b off : Nat} {cap : Nat} {xs : List Rw} (h : Rws w (.slice (some ⟨b, off, none⟩) xs.length cap) xs) {k : Nat} (hk : k ≤ xs.length) : Rws w (.slice (some ⟨b, off + k * 24, none⟩) (xs.length - k) (cap - k)) (xs.drop k) := by
  obtain ⟨A1, cap1, hv, h1, h2, h3⟩ := h
  injection hv with e1 _ e2
  refine ⟨_, cap - k, by rw [List.length_drop], by rw [List.length_drop]; omega, by omega, fun i x hx => ?_⟩
  rw [List.getElem?_drop] at hx
  obtain ⟨b', off', cs, hA, hl, hc, hr⟩ := h3 (k + i) x hx
  rw [← e1] at hA
  injection hA with hA
  injection hA with ha hb _
  subst ha; subst hb
  refine ⟨_, _, cs, rfl, hl, fun j c hj => ?_, hr⟩
  have := hc j c hj
  rwa [show off + ((k + i) * 24 + j) = off + k * 24 + (i * 24 + j) by omega] at this

theorem rws_drop' {w : World} {b off : Nat} {cap : Nat} {xs : List Rw} (h : Rws w (.slice (some ⟨b, off, none⟩) xs.length cap) xs) {k : Nat} (hk : k ≤ xs.length) : Rws w (.slice (if cap = k then some ⟨b, off, none⟩ else some ⟨b, off + k * 24, none⟩) (xs.length - k) (cap - k)) (xs.drop k) := by
  by_cases hc : cap = k
  · obtain ⟨A1, cap1, hv, h1, _, _⟩ := h
    injection hv with _ _ e2
    have hd : xs.drop k = [] := List.drop_eq_nil_of_le (by omega)
    rw [if_pos hc, hd]
    refine ⟨_, cap - k, by rw [show xs.length - k = 0 by omega]; rfl, Nat.zero_le _, by omega, fun i x hx => by simp at hx⟩
  · rw [if_neg hc]; exact rws_drop h hk
theorem rws_two (w : World) (t : TypeId) {u v : Value} {xs ys : List Rw} (hu : Rws w u xs) (hv : Rws w v ys) : SlRep 1 1000 RRs (w.alloc (.cells #[u, v] t)) (.slice (some ⟨w.heap.size, 0, none⟩) 2 2) [xs, ys] := by
  refine ⟨_, 2, rfl, Nat.le_refl _, by omega, fun i x hx => ?_⟩
  have hb := heap_alloc_new w (.cells #[u, v] t)
  have hil := (List.getElem?_eq_some_iff.1 hx).1
  simp only [List.length_cons, List.length_nil] at hil
  match i, hil with
  | 0, _ =>
    simp at hx; subst hx
    refine ⟨_, 0, [u], rfl, rfl, fun j c hj => ?_, u, rfl, hu.fut RR.stays (Fut.alloc _ _)⟩
    have := (List.getElem?_eq_some_iff.1 hj).1
    simp at this; subst this; simp at hj; subst hj
    exact cell_at hb 0 _ rfl
  | 1, _ =>
    simp at hx; subst hx
    refine ⟨_, 0, [v], rfl, rfl, fun j c hj => ?_, v, rfl, hv.fut RR.stays (Fut.alloc _ _)⟩
    have := (List.getElem?_eq_some_iff.1 hj).1
    simp at this; subst this; simp at hj; subst hj
    exact cell_at hb 1 _ rfl
end Go.Proofs.Ytkdnplebgmmclaa
