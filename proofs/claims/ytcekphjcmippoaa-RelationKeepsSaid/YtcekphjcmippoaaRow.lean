/- Rows of 24 numbers: as values, as keys; are two the same?; a map from rows to numbers. No program. -/
import Derived.Test.YtcekphjcmippoaaOwn
import Derived.WideKeyArr2
import Derived.Maps.Keyed
import Derived.Laws.StructEq
import Derived.Laws.Rows
namespace Go.Proofs.Ytcekphjcmippoaa
open Go.RowKit Go.WideMaps Go.Maps
open Go.ChangeMaps (setBlock heap_setBlock_same heap_setBlock_other)
set_option linter.unusedSimpArgs false
set_option linter.unusedVariables false

abbrev Rw := List Int
def Rw.ok (x : Rw) : Prop := x.length = 24 ∧ ∀ a ∈ x, (Lit.int .i32 a).wf = true
def Rw.cells (x : Rw) : List Value := x.map (Value.int .i32)
def Rw.val (x : Rw) : Value := .agg (Rw.cells x).toArray
def RR (_ : World) (cs : List Value) (x : Rw) : Prop := cs = Rw.cells x ∧ Rw.ok x
theorem RR.stays : Stays RR := fun _ _ _ _ _ h => h
theorem RR.one : ∀ (w : World) cs x, RR w cs x → ∀ u ∈ cs, u.oneCell' = true := fun w cs x h u hu => by
  obtain ⟨rfl, _⟩ := h
  simp only [Rw.cells, List.mem_map] at hu
  obtain ⟨a, _, rfl⟩ := hu
  rfl
theorem Rw.cells_len {x : Rw} (h : Rw.ok x) : (Rw.cells x).length = 24 := by simp [Rw.cells, h.1]
theorem ints_inj : ∀ {x y : List Int}, x.map (Value.int .i32) = y.map (Value.int .i32) → x = y
  | [], [], _ => rfl
  | [], _ :: _, h => by simp at h
  | _ :: _, [], h => by simp at h
  | a :: x, b :: y, h => by
    simp only [List.map_cons, List.cons.injEq, Value.int.injEq, true_and] at h
    rw [h.1, ints_inj h.2]
theorem Rw.val_inj {x y : Rw} (h : Rw.val x = Rw.val y) : x = y := by
  unfold Rw.val Rw.cells at h
  injection h with h
  exact ints_inj (congrArg Array.toList h)

theorem mapM_all {β : Type} {f : Nat → Option β} {g : Nat → β} : ∀ L : List Nat, (∀ i ∈ L, f i = some (g i)) → L.mapM f = some (L.map g)
  | [], _ => rfl
  | i :: L, h => by
    rw [List.mapM_cons, h i (by simp), mapM_all L fun j hj => h j (by simp [hj])]
    rfl

section
variable {P : Program} {k e : TypeId}
theorem keyOf_row (A : ArrKey P k e 24) (he : P.underlying e = some (.int .i32)) (hsz : ∃ m, P.types.size = m + 1) {x : Rw} (hx : Rw.ok x) : ∃ l, keyOf P k (Rw.val x) = some l := by
  have hkt := A.keyType hsz
  obtain ⟨m0, hm0⟩ := hsz
  have hl := Rw.cells_len hx
  refine ⟨.string (keyBytes ((List.range 24).map fun i => [Lit.int .i32 (x.getD i 0)]).flatten), ?_⟩
  unfold keyOf Rw.val
  simp only [A.hu]
  rw [if_pos (by simp [hkt, Value.formed, A.hu, A.size, hl]), hm0]
  unfold Program.keyLits
  simp only [A.hu, Value.cells]
  rw [if_pos (by rw [A.size]; exact hl), mapM_all (g := fun i => [Lit.int .i32 (x.getD i 0)])]
  · rfl
  · intro i hi
    have hi24 : i < 24 := List.mem_range.1 hi
    have hix : i < x.length := by rw [hx.1]; exact hi24
    rw [A.one, Nat.mul_one]
    have h1 : ((Rw.cells x).drop i).take 1 = [.int .i32 (x.getD i 0)] := by
      rw [List.drop_eq_getElem_cons (by rw [hl]; exact hi24)]
      simp [Rw.cells, List.getD, hix]
    rw [h1]
    have hw : (Lit.int .i32 (x.getD i 0)).wf = true := hx.2 _ (by simp [List.getD, hix])
    simp only [Program.keyLits, he]
    rw [if_pos ⟨trivial, hw⟩]

/-- The key's law. -/
theorem row_keyed (A : ArrKey P k e 24) : Keyed P k := Keyed.of_law A.law

theorem run_equal_row (A : ArrKey P k e 24) (he : P.underlying e = some (.int .i32)) (hsz : ∃ m, P.types.size = m + 1) {x y : Rw} (hx : Rw.ok x) (hy : Rw.ok y) (w : World) :
    (Op.equal k (Rw.val x) (Rw.val y)).run P w = .ok (decide (x = y)) w := by
  obtain ⟨lx, h1⟩ := keyOf_row A he hsz hx
  obtain ⟨ly, h2⟩ := keyOf_row A he hsz hy
  obtain ⟨r, hr, hiff⟩ := run_equal_deep (P := P) w (m := 2) (by omega) (A.at 0) A.wide h1 h2
  rw [hr]
  congr 1
  cases hxy : decide (x = y) with
  | true =>
    have e1 : x = y := of_decide_eq_true hxy
    subst e1
    rw [h1] at h2
    exact hiff.2 (Option.some.inj h2)
  | false =>
    cases r with
    | false => rfl
    | true =>
      have e1 := hiff.1 rfl
      subst e1
      exact absurd (Rw.val_inj ((row_keyed A).inj h1 h2)) (of_decide_eq_false hxy)
theorem run_eql_row (A : ArrKey P k e 24) (he : P.underlying e = some (.int .i32)) (hsz : ∃ m, P.types.size = m + 1) {x y : Rw} (hx : Rw.ok x) (hy : Rw.ok y) (w : World) :
    (binOp .eql k (Rw.val x) (Rw.val y)).run P w = .ok (.bool (decide (x = y))) w := by
  have h := run_equal_row A he hsz hx hy w
  unfold Rw.val at h ⊢
  simp only [binOp]
  simp [h]
theorem run_neq_row (A : ArrKey P k e 24) (he : P.underlying e = some (.int .i32)) (hsz : ∃ m, P.types.size = m + 1) {x y : Rw} (hx : Rw.ok x) (hy : Rw.ok y) (w : World) :
    (binOp .neq k (Rw.val x) (Rw.val y)).run P w = .ok (.bool (!decide (x = y))) w := by
  have h := run_equal_row A he hsz hx hy w
  unfold Rw.val at h ⊢
  simp only [binOp]
  simp [h]

/-- Block b is a map that has the number f x at the row x. -/
def MapR (w : World) (b : Nat) (f : Rw → Option Int) : Prop :=
  ∃ es clock, w.heap[b]? = some (.map es clock) ∧ (∀ e ∈ es.toList, ∃ x v, Rw.ok x ∧ e.key = Rw.val x ∧ e.val = .int .i64 v ∧ f x = some v) ∧ (∀ x v, f x = some v → ∃ e ∈ es.toList, e.key = Rw.val x)
theorem MapR.new (w : World) : MapR (w.alloc (.map #[] 0)) w.heap.size (fun _ => none) :=
  ⟨#[], 0, heap_alloc_new w _, fun e he => by simp at he, fun x v h => by cases h⟩
theorem MapR.lt {w : World} {b : Nat} {f : Rw → Option Int} (h : MapR w b f) : b < w.heap.size := by
  obtain ⟨es, c, h1, _⟩ := h
  exact (Array.getElem?_eq_some_iff.1 h1).1
theorem MapR.kept {w w' : World} {b : Nat} {f : Rw → Option Int} (h : MapR w b f) (hs : w'.heap[b]? = w.heap[b]?) : MapR w' b f := by
  obtain ⟨es, c, h1, h2⟩ := h
  exact ⟨es, c, hs.trans h1, h2⟩
theorem MapR.find {w : World} {b : Nat} {f : Rw → Option Int} {es : Array MapEntry} (A : ArrKey P k e 24) (he : P.underlying e = some (.int .i32)) (hsz : ∃ m, P.types.size = m + 1)
    (h1 : ∀ e ∈ es.toList, ∃ x v, Rw.ok x ∧ e.key = Rw.val x ∧ e.val = .int .i64 v ∧ f x = some v) (h2 : ∀ x v, f x = some v → ∃ e ∈ es.toList, e.key = Rw.val x) {x : Rw} (hx : Rw.ok x) :
    (f x = none ∧ (Instr.findKey k (Rw.val x) es.toList).run P w = .ok none w) ∨ ∃ v j, f x = some v ∧ (Instr.findKey k (Rw.val x) es.toList).run P w = .ok (some (j, .int .i64 v)) w := by
  obtain ⟨lx, hlx⟩ := keyOf_row A he hsz hx
  rcases (row_keyed A).find w hlx es.toList (fun y hy => by
    obtain ⟨z, v, hz, hk, _⟩ := h1 y hy
    rw [hk]
    exact keyOf_row A he hsz hz) with ⟨h3, h4⟩ | ⟨j, y, h3, h4, h5⟩
  · refine .inl ⟨?_, h3⟩
    cases hf : f x with
    | none => rfl
    | some v =>
      obtain ⟨y, hy, hk⟩ := h2 x v hf
      exact absurd hk (h4 y hy)
  · obtain ⟨z, v, hz, hk, hv, hf⟩ := h1 y (List.mem_of_getElem? h4)
    have e1 : z = x := Rw.val_inj (hk.symm.trans h5)
    subst e1
    exact .inr ⟨v, j, hf, by rw [h3, hv]⟩
theorem MapR.lookup {w : World} {b : Nat} {f : Rw → Option Int} {t ev : TypeId} (h : MapR w b f) (A : ArrKey P k e 24) (he : P.underlying e = some (.int .i32)) (hsz : ∃ m, P.types.size = m + 1) (ht : P.underlying t = some (.map k ev))
    (hz : ∀ w, (zeroValue ev).run P w = .ok (.int .i64 0) w) {x : Rw} (hx : Rw.ok x) :
    (Instr.lookup t (.map (some b)) (Rw.val x) true).run P w = .ok (.tuple #[.int .i64 ((f x).getD 0), .bool (f x).isSome]) w := by
  obtain ⟨es, c, hb, h1, h2⟩ := h
  obtain ⟨lx, hlx⟩ := keyOf_row A he hsz hx
  rcases MapR.find (w := w) (b := b) A he hsz h1 h2 hx with ⟨h3, h4⟩ | ⟨v, j, h3, h4⟩
  · simp [Instr.lookup, run_underlying ht, MapKept.run_getObj_map hb, (row_keyed A).check w _ hlx, h4, h3, hz, Result.andThen]
  · simp [Instr.lookup, run_underlying ht, MapKept.run_getObj_map hb, (row_keyed A).check w _ hlx, h4, h3, Result.andThen]
theorem MapR.push {w : World} {b : Nat} {f : Rw → Option Int} {t ev : TypeId} (h : MapR w b f) (A : ArrKey P k e 24) (he : P.underlying e = some (.int .i32)) (hsz : ∃ m, P.types.size = m + 1) (ht : P.underlying t = some (.map k ev))
    {x : Rw} (hx : Rw.ok x) (hn : f x = none) (v : Int) :
    ∃ w', (Instr.mapUpdate t (.map (some b)) (Rw.val x) (.int .i64 v)).run P w = .ok () w' ∧ MapR w' b (fun y => if y = x then some v else f y) ∧ w.grownBy w' (some b) := by
  obtain ⟨es, c, hb, h1, h2⟩ := h
  obtain ⟨lx, hlx⟩ := keyOf_row A he hsz hx
  rcases MapR.find (w := w) (b := b) A he hsz h1 h2 hx with ⟨_, h4⟩ | ⟨v, j, h3, h4⟩
  · refine ⟨setBlock w b (.map (es.push { key := Rw.val x, val := .int .i64 v, born := c }) (c + 1)), ?_, ⟨_, _, heap_setBlock_same hb _, ?_, ?_⟩, ⟨rfl, rfl, rfl, by simp [setBlock], fun i _ hi => heap_setBlock_other hb _ (fun e => hi (by rw [e]))⟩⟩
    · simp [Instr.mapUpdate, run_underlying ht, MapKept.run_getObj_map hb, (row_keyed A).check w _ hlx, h4, MapKept.run_setObj_map _ hb, Result.andThen, setBlock]
    · intro e he
      simp only [Array.toList_push, List.mem_append, List.mem_singleton] at he
      rcases he with he | rfl
      · obtain ⟨y, u, hy, hk, hv, hf⟩ := h1 e he
        exact ⟨y, u, hy, hk, hv, by show (if y = x then some v else f y) = some u; rw [if_neg (fun e => by subst e; rw [hn] at hf; cases hf)]; exact hf⟩
      · exact ⟨x, v, hx, rfl, rfl, if_pos rfl⟩
    · intro y u hf
      replace hf : (if y = x then some v else f y) = some u := hf
      by_cases hyx : y = x
      · subst hyx
        exact ⟨{ key := Rw.val y, val := .int .i64 v, born := c }, by rw [Array.toList_push]; exact List.mem_append_right _ (by simp), rfl⟩
      · rw [if_neg hyx] at hf
        obtain ⟨e, he, hk⟩ := h2 y u hf
        exact ⟨e, by simp [he], hk⟩
  · rw [hn] at h3; cases h3
theorem MapR.clear {w : World} {b : Nat} {f : Rw → Option Int} {t ev : TypeId} (h : MapR w b f) (ht : P.underlying t = some (.map k ev)) (ty : TypeId) :
    ∃ w', (Builtin.clear_ #[t] ty #[.map (some b)]).run P w = .ok (.tuple #[]) w' ∧ MapR w' b (fun _ => none) ∧ w.grownBy w' (some b) := by
  obtain ⟨es, c, hb, h1, h2⟩ := h
  refine ⟨setBlock w b (.map #[] c), ?_, ⟨_, _, heap_setBlock_same hb _, fun e he => by simp at he, fun x v h => by cases h⟩, ⟨rfl, rfl, rfl, by simp [setBlock], fun i _ hi => heap_setBlock_other hb _ (fun e => hi (by rw [e]))⟩⟩
  simp [Builtin.clear_, run_underlying ht, MapKept.run_getObj_map hb, MapKept.run_setObj_map _ hb, Result.andThen, setBlock]
end
end Go.Proofs.Ytcekphjcmippoaa
