/- Row, Range, RowW, Rel0, Tup, Cnt -/
import Derived.WideKeyArr2
import Derived.Maps.Keyed
import Derived.Laws.StructEq
import Derived.Laws.Rows
import Derived.RangeFuncNested
import Derived.RangeFuncLeaves
import Derived.Deep.MidRow
import Derived.Test.YtkdnplebgmmclaaProg
import Derived.Lib.Hide
import Derived.WalkSpells
import Derived.WalkLawsBesides
import Derived.WalkKit
import Derived.Laws.Pointers
import Derived.Deep.QuietTactic
import Derived.BigQuiet
import Derived.Test.YtkdnplebgmmclaaC03
/- Rows of 24 numbers: as values, as keys; are two the same?; a map from rows to numbers. No program. -/
namespace Go.Proofs.Ytkdnplebgmmclaa
open Go.RowKit Go.WideMaps Go.Maps
open Go.ChangeMaps (setBlock heap_setBlock_same heap_setBlock_other)
set_option linter.unusedSimpArgs false
set_option linter.unusedVariables false

abbrev Rw := List Int
def Rw.ok (x : Rw) : Prop := x.length = 24 ∧ ∀ a ∈ x, (Lit.int .i32 a).wf = true
def Rw.cells (x : Rw) : List Value := x.map (Value.int .i32)
def Rw.val (x : Rw) : Value := .agg (Rw.cells x).toArray
def RR (_ : World) (cs : List Value) (x : Rw) : Prop := cs = Rw.cells x ∧ Rw.ok x
theorem RR.stays : Stays RR := fun _ _ _ _ _ h => h
theorem RR.one : ∀ (w : World) cs x, RR w cs x → ∀ u ∈ cs, u.oneCell' = true := fun w cs x h u hu => by
  obtain ⟨rfl, _⟩ := h
  simp only [Rw.cells, List.mem_map] at hu
  obtain ⟨a, _, rfl⟩ := hu
  rfl
theorem Rw.cells_len {x : Rw} (h : Rw.ok x) : (Rw.cells x).length = 24 := by simp [Rw.cells, h.1]
theorem ints_inj : ∀ {x y : List Int}, x.map (Value.int .i32) = y.map (Value.int .i32) → x = y
  | [], [], _ => rfl
  | [], _ :: _, h => by simp at h
  | _ :: _, [], h => by simp at h
  | a :: x, b :: y, h => by
    simp only [List.map_cons, List.cons.injEq, Value.int.injEq, true_and] at h
    rw [h.1, ints_inj h.2]
theorem Rw.val_inj {x y : Rw} (h : Rw.val x = Rw.val y) : x = y := by
  unfold Rw.val Rw.cells at h
  injection h with h
  exact ints_inj (congrArg Array.toList h)

theorem mapM_all {β : Type} {f : Nat → Option β} {g : Nat → β} : ∀ L : List Nat, (∀ i ∈ L, f i = some (g i)) → L.mapM f = some (L.map g)
  | [], _ => rfl
  | i :: L, h => by
    rw [List.mapM_cons, h i (by simp), mapM_all L fun j hj => h j (by simp [hj])]
    rfl

section
variable {P : Program} {k e : TypeId}
theorem keyOf_row (A : ArrKey P k e 24) (he : P.underlying e = some (.int .i32)) (hsz : ∃ m, P.types.size = m + 1) {x : Rw} (hx : Rw.ok x) : ∃ l, keyOf P k (Rw.val x) = some l := by
  have hkt := A.keyType hsz
  obtain ⟨m0, hm0⟩ := hsz
  have hl := Rw.cells_len hx
  refine ⟨.string (keyBytes ((List.range 24).map fun i => [Lit.int .i32 (x.getD i 0)]).flatten), ?_⟩
  unfold keyOf Rw.val
  simp only [A.hu]
  rw [if_pos (by simp [hkt, Value.formed, A.hu, A.size, hl]), hm0]
  unfold Program.keyLits
  simp only [A.hu, Value.cells]
  rw [if_pos (by rw [A.size]; exact hl), mapM_all (g := fun i => [Lit.int .i32 (x.getD i 0)])]
  · rfl
  · intro i hi
    have hi24 : i < 24 := List.mem_range.1 hi
    have hix : i < x.length := by rw [hx.1]; exact hi24
    rw [A.one, Nat.mul_one]
    have h1 : ((Rw.cells x).drop i).take 1 = [.int .i32 (x.getD i 0)] := by
      rw [List.drop_eq_getElem_cons (by rw [hl]; exact hi24)]
      simp [Rw.cells, List.getD, hix]
    rw [h1]
    have hw : (Lit.int .i32 (x.getD i 0)).wf = true := hx.2 _ (by simp [List.getD, hix])
    simp only [Program.keyLits, he]
    rw [if_pos ⟨trivial, hw⟩]

/-- The key's law. -/
theorem row_keyed (A : ArrKey P k e 24) : Keyed P k := Keyed.of_law A.law

theorem run_equal_row (A : ArrKey P k e 24) (he : P.underlying e = some (.int .i32)) (hsz : ∃ m, P.types.size = m + 1) {x y : Rw} (hx : Rw.ok x) (hy : Rw.ok y) (w : World) :
    (Op.equal k (Rw.val x) (Rw.val y)).run P w = .ok (decide (x = y)) w := by
  obtain ⟨lx, h1⟩ := keyOf_row A he hsz hx
  obtain ⟨ly, h2⟩ := keyOf_row A he hsz hy
  obtain ⟨r, hr, hiff⟩ := run_equal_deep (P := P) w (m := 2) (by omega) (A.at 0) A.wide h1 h2
  rw [hr]
  congr 1
  cases hxy : decide (x = y) with
  | true =>
    have e1 : x = y := of_decide_eq_true hxy
    subst e1
    rw [h1] at h2
    exact hiff.2 (Option.some.inj h2)
  | false =>
    cases r with
    | false => rfl
    | true =>
      have e1 := hiff.1 rfl
      subst e1
      exact absurd (Rw.val_inj ((row_keyed A).inj h1 h2)) (of_decide_eq_false hxy)
theorem run_eql_row (A : ArrKey P k e 24) (he : P.underlying e = some (.int .i32)) (hsz : ∃ m, P.types.size = m + 1) {x y : Rw} (hx : Rw.ok x) (hy : Rw.ok y) (w : World) :
    (binOp .eql k (Rw.val x) (Rw.val y)).run P w = .ok (.bool (decide (x = y))) w := by
  have h := run_equal_row A he hsz hx hy w
  unfold Rw.val at h ⊢
  simp only [binOp]
  simp [h]
theorem run_neq_row (A : ArrKey P k e 24) (he : P.underlying e = some (.int .i32)) (hsz : ∃ m, P.types.size = m + 1) {x y : Rw} (hx : Rw.ok x) (hy : Rw.ok y) (w : World) :
    (binOp .neq k (Rw.val x) (Rw.val y)).run P w = .ok (.bool (!decide (x = y))) w := by
  have h := run_equal_row A he hsz hx hy w
  unfold Rw.val at h ⊢
  simp only [binOp]
  simp [h]

/-- Block b is a map that has the number f x at the row x. -/
def MapR (w : World) (b : Nat) (f : Rw → Option Int) : Prop :=
  ∃ es clock, w.heap[b]? = some (.map es clock) ∧ (∀ e ∈ es.toList, ∃ x v, Rw.ok x ∧ e.key = Rw.val x ∧ e.val = .int .i64 v ∧ f x = some v) ∧ (∀ x v, f x = some v → ∃ e ∈ es.toList, e.key = Rw.val x)
theorem MapR.new (w : World) : MapR (w.alloc (.map #[] 0)) w.heap.size (fun _ => none) :=
  ⟨#[], 0, heap_alloc_new w _, fun e he => by simp at he, fun x v h => by cases h⟩
theorem MapR.lt {w : World} {b : Nat} {f : Rw → Option Int} (h : MapR w b f) : b < w.heap.size := by
  obtain ⟨es, c, h1, _⟩ := h
  exact (Array.getElem?_eq_some_iff.1 h1).1
theorem MapR.kept {w w' : World} {b : Nat} {f : Rw → Option Int} (h : MapR w b f) (hs : w'.heap[b]? = w.heap[b]?) : MapR w' b f := by
  obtain ⟨es, c, h1, h2⟩ := h
  exact ⟨es, c, hs.trans h1, h2⟩
theorem MapR.find {w : World} {b : Nat} {f : Rw → Option Int} {es : Array MapEntry} (A : ArrKey P k e 24) (he : P.underlying e = some (.int .i32)) (hsz : ∃ m, P.types.size = m + 1)
    (h1 : ∀ e ∈ es.toList, ∃ x v, Rw.ok x ∧ e.key = Rw.val x ∧ e.val = .int .i64 v ∧ f x = some v) (h2 : ∀ x v, f x = some v → ∃ e ∈ es.toList, e.key = Rw.val x) {x : Rw} (hx : Rw.ok x) :
    (f x = none ∧ (Instr.findKey k (Rw.val x) es.toList).run P w = .ok none w) ∨ ∃ v j, f x = some v ∧ (Instr.findKey k (Rw.val x) es.toList).run P w = .ok (some (j, .int .i64 v)) w := by
  obtain ⟨lx, hlx⟩ := keyOf_row A he hsz hx
  rcases (row_keyed A).find w hlx es.toList (fun y hy => by
    obtain ⟨z, v, hz, hk, _⟩ := h1 y hy
    rw [hk]
    exact keyOf_row A he hsz hz) with ⟨h3, h4⟩ | ⟨j, y, h3, h4, h5⟩
  · refine .inl ⟨?_, h3⟩
    cases hf : f x with
    | none => rfl
    | some v =>
      obtain ⟨y, hy, hk⟩ := h2 x v hf
      exact absurd hk (h4 y hy)
  · obtain ⟨z, v, hz, hk, hv, hf⟩ := h1 y (List.mem_of_getElem? h4)
    have e1 : z = x := Rw.val_inj (hk.symm.trans h5)
    subst e1
    exact .inr ⟨v, j, hf, by rw [h3, hv]⟩
theorem MapR.lookup {w : World} {b : Nat} {f : Rw → Option Int} {t ev : TypeId} (h : MapR w b f) (A : ArrKey P k e 24) (he : P.underlying e = some (.int .i32)) (hsz : ∃ m, P.types.size = m + 1) (ht : P.underlying t = some (.map k ev))
    (hz : ∀ w, (zeroValue ev).run P w = .ok (.int .i64 0) w) {x : Rw} (hx : Rw.ok x) :
    (Instr.lookup t (.map (some b)) (Rw.val x) true).run P w = .ok (.tuple #[.int .i64 ((f x).getD 0), .bool (f x).isSome]) w := by
  obtain ⟨es, c, hb, h1, h2⟩ := h
  obtain ⟨lx, hlx⟩ := keyOf_row A he hsz hx
  rcases MapR.find (w := w) (b := b) A he hsz h1 h2 hx with ⟨h3, h4⟩ | ⟨v, j, h3, h4⟩
  · simp [Instr.lookup, run_underlying ht, MapKept.run_getObj_map hb, (row_keyed A).check w _ hlx, h4, h3, hz, Result.andThen]
  · simp [Instr.lookup, run_underlying ht, MapKept.run_getObj_map hb, (row_keyed A).check w _ hlx, h4, h3, Result.andThen]
theorem MapR.push {w : World} {b : Nat} {f : Rw → Option Int} {t ev : TypeId} (h : MapR w b f) (A : ArrKey P k e 24) (he : P.underlying e = some (.int .i32)) (hsz : ∃ m, P.types.size = m + 1) (ht : P.underlying t = some (.map k ev))
    {x : Rw} (hx : Rw.ok x) (hn : f x = none) (v : Int) :
    ∃ w', (Instr.mapUpdate t (.map (some b)) (Rw.val x) (.int .i64 v)).run P w = .ok () w' ∧ MapR w' b (fun y => if y = x then some v else f y) ∧ w.grownBy w' (some b) := by
  obtain ⟨es, c, hb, h1, h2⟩ := h
  obtain ⟨lx, hlx⟩ := keyOf_row A he hsz hx
  rcases MapR.find (w := w) (b := b) A he hsz h1 h2 hx with ⟨_, h4⟩ | ⟨v, j, h3, h4⟩
  · refine ⟨setBlock w b (.map (es.push { key := Rw.val x, val := .int .i64 v, born := c }) (c + 1)), ?_, ⟨_, _, heap_setBlock_same hb _, ?_, ?_⟩, ⟨rfl, rfl, rfl, by simp [setBlock], fun i _ hi => heap_setBlock_other hb _ (fun e => hi (by rw [e]))⟩⟩
    · simp [Instr.mapUpdate, run_underlying ht, MapKept.run_getObj_map hb, (row_keyed A).check w _ hlx, h4, MapKept.run_setObj_map _ hb, Result.andThen, setBlock]
    · intro e he
      simp only [Array.toList_push, List.mem_append, List.mem_singleton] at he
      rcases he with he | rfl
      · obtain ⟨y, u, hy, hk, hv, hf⟩ := h1 e he
        exact ⟨y, u, hy, hk, hv, by show (if y = x then some v else f y) = some u; rw [if_neg (fun e => by subst e; rw [hn] at hf; cases hf)]; exact hf⟩
      · exact ⟨x, v, hx, rfl, rfl, if_pos rfl⟩
    · intro y u hf
      replace hf : (if y = x then some v else f y) = some u := hf
      by_cases hyx : y = x
      · subst hyx
        exact ⟨{ key := Rw.val y, val := .int .i64 v, born := c }, by rw [Array.toList_push]; exact List.mem_append_right _ (by simp), rfl⟩
      · rw [if_neg hyx] at hf
        obtain ⟨e, he, hk⟩ := h2 y u hf
        exact ⟨e, by simp [he], hk⟩
  · rw [hn] at h3; cases h3
theorem MapR.clear {w : World} {b : Nat} {f : Rw → Option Int} {t ev : TypeId} (h : MapR w b f) (ht : P.underlying t = some (.map k ev)) (ty : TypeId) :
    ∃ w', (Builtin.clear_ #[t] ty #[.map (some b)]).run P w = .ok (.tuple #[]) w' ∧ MapR w' b (fun _ => none) ∧ w.grownBy w' (some b) := by
  obtain ⟨es, c, hb, h1, h2⟩ := h
  refine ⟨setBlock w b (.map #[] c), ?_, ⟨_, _, heap_setBlock_same hb _, fun e he => by simp at he, fun x v h => by cases h⟩, ⟨rfl, rfl, rfl, by simp [setBlock], fun i _ hi => heap_setBlock_other hb _ (fun e => hi (by rw [e]))⟩⟩
  simp [Builtin.clear_, run_underlying ht, MapKept.run_getObj_map hb, MapKept.run_setObj_map _ hb, Result.andThen, setBlock]
end
end Go.Proofs.Ytkdnplebgmmclaa
/- A range over a function: what an iterator promises, round by round; the statement's law. No program. -/
namespace Go.Proofs.Ytkdnplebgmmclaa
open Go.RowKit
set_option linter.unusedSimpArgs false
set_option linter.unusedVariables false

/-- What lay from block a to block b lies there still. -/
def Mid (a b : Nat) (W W' : World) : Prop := W.heap.size ≤ W'.heap.size ∧ ∀ k, a ≤ k → k < b → W'.heap[k]? = W.heap[k]?
theorem Mid.refl (a b : Nat) (W : World) : Mid a b W W := ⟨Nat.le_refl _, fun _ _ _ => rfl⟩
theorem Mid.trans {a b : Nat} {A B C : World} (h : Mid a b A B) (k : Mid a b B C) : Mid a b A C := ⟨Nat.le_trans h.1 k.1, fun i h1 h2 => (k.2 i h1 h2).trans (h.2 i h1 h2)⟩
theorem Mid.of_fut {a b : Nat} {W W' : World} (h : Fut W W') (hb : b ≤ W.heap.size) : Mid a b W W' := ⟨h.size, fun k _ h2 => Below.block h k (by omega)⟩
theorem Mid.less {a b a' b' : Nat} {W W' : World} (h : Mid a b W W') (h1 : a ≤ a') (h2 : b' ≤ b) : Mid a' b' W W' := ⟨h.1, fun k h3 h4 => h.2 k (by omega) (by omega)⟩
theorem Mid.grown {a b : Nat} {W W' : World} {row : Option Nat} (hg : W.grownBy W' row) (hb : b ≤ W.heap.size) (hr : ∀ k, row = some k → k < a ∨ b ≤ k) : Mid a b W W' :=
  ⟨hg.size, fun k h1 h2 => hg.block k (by omega) (fun e => by have := hr k e.symm; omega)⟩

/-- An iterator: it asks for the rounds 0, 1, .., N - 1, round k with 'args k'; it makes memory of its own and turns nothing else; of its own memory it wants each round to keep what was made ahead of the first one. -/
def IterAt (P : Program) (gf : Nat) (lb : Array Value) (N : Nat) (args : Nat → Array Value) (w : World) : Prop :=
  ∀ (l : Nat) (J : Nat → Nat → World → Prop) (Jx : Nat → World → Prop),
    (∀ w1, Fut w w1 → J w1.heap.size 0 w1) → (∀ s k W W', Fut W W' → J s k W → J s k W') →
    (∀ s k W, w.heap.size ≤ s → s ≤ W.heap.size → k < N → J s k W → YieldAt Fence.wide 2 P l (args k) W fun e W' =>
      (e = .returned (.bool true) ∧ J s (k + 1) W' ∧ Mid w.heap.size s W W') ∨ (e = .returned (.bool false) ∧ Jx s W')) →
    Calls P gf (#[.func (.yield l) #[] #[]] ++ lb) w fun e W' => (∃ v, e = .returned v) ∧ ((∃ s, J s N W') ∨ ∃ s, Jx s W')

/-- How a round's body may be left. -/
def roundOut (a s : Nat) (I : World → Prop) (Ix : Code → World → Prop) (W : World) : Exit → Act → World → Prop
  | .normal, _, W' => Mid a s W W' ∧ I W'
  | .ret, _, W' => Mid a s W W' ∧ Ix .ret W'
  | .exit id, _, W' => Mid a s W W' ∧ Ix (.exit id) W'
  | .goto t, _, W' => Mid a s W W' ∧ Ix (.goto t) W'
  | .panic _, _, _ => False
  | .outgrown, _, _ => False

theorem wp_range {P : Program} {g : Operand} {ps : Array Tmp} {assign body : Code} {Q : Exit → Act → World → Prop} {a : Act} {w : World} {gf : Nat} {lb : Array Value}
    (hg : a.eval g = .func (.func gf) #[] lb) (eg : ∀ args w, (callFunc gf args).run P w = .ok (.enter gf args) w) {N : Nat} {args : Nat → Array Value}
    (hit : ∀ w1, Fut w w1 → IterAt P gf lb N args w1) (hps : ∀ k, k < N → (args k).size = ps.size)
    (I : Nat → Nat → World → Prop) (Ix : Code → Nat → World → Prop)
    (hIf : ∀ s k W W', Fut W W' → I s k W → I s k W') (hI : ∀ s k W l o, w.heap.size ≤ l → l < w.heap.size + 2 → w.heap.size + 2 ≤ s → I s k W → I s k (W.putObj l o)) (hIx : ∀ c s W l o, w.heap.size ≤ l → l < w.heap.size + 2 → w.heap.size + 2 ≤ s → Ix c s W → Ix c s (W.putObj l o))
    (h0 : ∀ w1, Fut w w1 → w.heap.size + 2 ≤ w1.heap.size → I w1.heap.size 0 w1)
    (hbody : ∀ l s k W, w.heap.size ≤ l → l < w.heap.size + 2 → w.heap.size + 2 ≤ s → s ≤ W.heap.size → k < N → I s k W → (∃ r, W.heap[l]? = some (.loop r)) →
      assign.wpIn (Fence.wide.inRound l) 2 P (Exit.then (fun a₁ W₁ => Mid w.heap.size s W W₁ ∧ ∀ o, body.wpIn (Fence.wide.inRound l) 2 P (roundOut w.heap.size s (I s (k + 1)) (fun c => Ix c s) (W₁.putObj l o)) a₁ (W₁.putObj l o)) (fun _ _ _ => False))
        { tmps := (ps.zip (args k)).foldl (fun t (p, v) => t.setIfInBounds p v) a.tmps, defers := [] } W)
    (hdone : ∀ s W, w.heap.size + 2 ≤ s → I s N W → W.heap[w.heap.size]? = some (.deferred (some [])) → Q .normal { a with defers := { target := .collected w.heap.size, args := #[] } :: a.defers } W)
    (hstop : ∀ s c W, w.heap.size + 2 ≤ s → Ix c s W → W.heap[w.heap.size]? = some (.deferred (some [])) → c.wp P Q { a with defers := { target := .collected w.heap.size, args := #[] } :: a.defers } W) :
    (Code.rangeFunc g ps assign body).wp P Q a w := by
  refine (wpIn_wide (n := 3)).1 (wpIn_rangeFunc ?_)
  intro fn hfn
  obtain ⟨rec, hrec⟩ : ∃ rec : LoopState → Option Code → Loop, rec = fun st pe => { state := st, pending := pe, fn, tmps := a.tmps, params := ps, assign, body, defers := w.heap.size } := ⟨_, rfl⟩
  obtain ⟨W1, hW1⟩ : ∃ W1, (w.alloc (.deferred (some []))).alloc (.loop (rec .ready none)) = W1 := ⟨_, rfl⟩
  have hL1 : W1.heap[w.heap.size + 1]? = some (.loop (rec .ready none)) := by
    rw [← hW1]; have := World.alloc_heap_new (w.alloc (.deferred (some []))) (.loop (rec .ready none)); rwa [World.size_alloc] at this
  have hK1 : W1.heap[w.heap.size]? = some (.deferred (some [])) := by
    rw [← hW1]; exact (Below.heap_alloc _ _ _ (by simp)).trans (World.alloc_heap_new w _)
  have hf1 : Fut w W1 := by rw [← hW1]; exact (Fut.alloc _ _).trans (Fut.alloc _ _)
  have hs1 : W1.heap.size = w.heap.size + 2 := by rw [← hW1]; simp
  refine ⟨w.heap.size + 1, [{ target := .collected w.heap.size, args := #[] }], W1, { target := .fn (.func gf) lb, args := #[.func (.yield (w.heap.size + 1)) #[] #[]] }, W1, gf,
    #[.func (.yield (w.heap.size + 1)) #[] #[]] ++ lb, W1, ?_, ?_, ?_, ?_, fun h => by simp [Fence.wide] at h, ?_⟩
  · rw [← hW1, hrec]; exact run_enterLoop_outer _ _ _ _ _
  · simp only [resolve, hg]
    simp [go_sem]
  · intro f' hf'; trivial
  · simp [invoke, go_sem, eg]
  · refine callsIn_wide.2 ?_
    refine (hit W1 hf1 (w.heap.size + 1)
      (fun s k W => I (max s (w.heap.size + 2)) k W ∧ W.heap[w.heap.size + 1]? = some (.loop (rec .ready none)) ∧ W.heap[w.heap.size]? = some (.deferred (some [])))
      (fun s W => ∃ c, Ix c (max s (w.heap.size + 2)) W ∧ W.heap[w.heap.size + 1]? = some (.loop (rec .done (some c))) ∧ W.heap[w.heap.size]? = some (.deferred (some []))) ?_ (fun s k W W' hf hj => ⟨hIf _ _ _ _ hf hj.1, hf.block hj.2.1, hf.block hj.2.2⟩) ?_).mono ?_
    · intro w1 hf
      have hsz := hf.size
      refine ⟨?_, hf.block hL1, hf.block hK1⟩
      rw [Nat.max_eq_left (by omega)]
      exact h0 w1 (hf1.trans hf) (by omega)
    · rintro s k W hs hsW hk ⟨hi, hl, hd⟩
      rw [hs1] at hs
      rw [Nat.max_eq_left hs] at hi
      have hlt : w.heap.size + 1 < W.heap.size := (Array.getElem?_eq_some_iff.1 hl).1
      have hy := run_yield (P := P) (args := args k) hl (by rw [hrec]; exact hps k hk)
      rw [hrec] at hy
      refine ⟨fn, _, assign, body, hy, roundIn_of_wpIn hfn ?_⟩
      clear hy
      refine wpIn_mono (hbody (w.heap.size + 1) s k W (by omega) (by omega) hs hsW hk hi ⟨_, hl⟩) ?_
      intro e a1 Wa hp
      cases e with
      | normal =>
        obtain ⟨hm, hp⟩ := hp
        have hla : Wa.heap[w.heap.size + 1]? = some (.loop (rec .ready none)) := (hm.2 _ (by omega) (by omega)).trans hl
        have hda : Wa.heap[w.heap.size]? = some (.deferred (some [])) := (hm.2 _ (by omega) (by omega)).trans hd
        have hlta : w.heap.size + 1 < Wa.heap.size := (Array.getElem?_eq_some_iff.1 hla).1
        refine ⟨_, run_beginRound hla (by rw [hrec]), ?_⟩
        have hl2 : (Wa.putObj (w.heap.size + 1) (.loop { rec .ready none with state := .busy })).heap[w.heap.size + 1]? = some (.loop { rec .ready none with state := .busy }) := World.putObj_heap_same hlta
        have hd2 : (Wa.putObj (w.heap.size + 1) (.loop { rec .ready none with state := .busy })).heap[w.heap.size]? = some (.deferred (some [])) := (World.putObj_heap_other (by omega)).trans hda
        refine wpIn_mono (hp _) ?_
        have fin : ∀ (jump : Option Code) (W3 : World), Mid w.heap.size s (Wa.putObj (w.heap.size + 1) (.loop { rec .ready none with state := .busy })) W3 →
            (Instr.endRound (w.heap.size + 1) jump).run P W3 = .ok (.bool jump.isNone) (W3.putObj (w.heap.size + 1) (.loop (rec (if jump.isNone then .ready else .done) jump))) ∧
            (W3.putObj (w.heap.size + 1) (.loop (rec (if jump.isNone then .ready else .done) jump))).heap[w.heap.size + 1]? = some (.loop (rec (if jump.isNone then .ready else .done) jump)) ∧
            (W3.putObj (w.heap.size + 1) (.loop (rec (if jump.isNone then .ready else .done) jump))).heap[w.heap.size]? = some (.deferred (some [])) := fun jump W3 hk3 => by
          have hl3 := (hk3.2 (w.heap.size + 1) (by omega) (by omega)).trans hl2
          have hd3 := (hk3.2 w.heap.size (by omega) (by omega)).trans hd2
          have := run_endRound (P := P) jump hl3
          rw [hrec] at this ⊢
          exact ⟨this, World.putObj_heap_same (Array.getElem?_eq_some_iff.1 hl3).1, (World.putObj_heap_other (by omega)).trans hd3⟩
        rintro e a3 W3 hp
        have hput : ∀ o o' : Obj, Mid w.heap.size s (Wa.putObj (w.heap.size + 1) o) W3 → Mid W1.heap.size s W (W3.putObj (w.heap.size + 1) o') := fun o o' hm3 =>
          ⟨by rw [World.putObj_size]; have h1 := hm3.1; rw [World.putObj_size] at h1; exact Nat.le_trans hm.1 h1, fun j h1 h2 => by
            rw [hs1] at h1
            rw [World.putObj_heap_other (by omega), hm3.2 j (by omega) h2, World.putObj_heap_other (by omega), hm.2 j (by omega) h2]⟩
        cases e with
        | normal =>
          obtain ⟨hm3, hi3⟩ := hp
          obtain ⟨hr, hl4, hd4⟩ := fin none W3 hm3
          exact ⟨_, _, hr, .inl ⟨rfl, ⟨by rw [Nat.max_eq_left hs]; exact hI s _ _ _ _ (by omega) (by omega) hs hi3, hl4, hd4⟩, hput _ _ hm3⟩⟩
        | ret =>
          obtain ⟨hm3, hi3⟩ := hp
          obtain ⟨hr, hl4, hd4⟩ := fin (some .ret) W3 hm3
          exact ⟨_, _, hr, .inr ⟨rfl, .ret, by rw [Nat.max_eq_left hs]; exact hIx _ s _ _ _ (by omega) (by omega) hs hi3, hl4, hd4⟩⟩
        | exit id =>
          obtain ⟨hm3, hi3⟩ := hp
          obtain ⟨hr, hl4, hd4⟩ := fin (some (.exit id)) W3 hm3
          exact ⟨_, _, hr, .inr ⟨rfl, .exit id, by rw [Nat.max_eq_left hs]; exact hIx _ s _ _ _ (by omega) (by omega) hs hi3, hl4, hd4⟩⟩
        | goto t =>
          obtain ⟨hm3, hi3⟩ := hp
          obtain ⟨hr, hl4, hd4⟩ := fin (some (.goto t)) W3 hm3
          exact ⟨_, _, hr, .inr ⟨rfl, .goto t, by rw [Nat.max_eq_left hs]; exact hIx _ s _ _ _ (by omega) (by omega) hs hi3, hl4, hd4⟩⟩
        | panic ch => exact hp.elim
        | outgrown => exact hp.elim
      | ret => exact hp.elim
      | exit id => exact hp.elim
      | goto t => exact hp.elim
      | panic ch => exact hp.elim
      | outgrown => exact hp.elim
    · rintro e W2 ⟨⟨v, rfl⟩, (⟨s, hi, hl, hd⟩ | ⟨s, c, hi, hl, hd⟩)⟩
      · exact ⟨none, _, by have := run_endLoop (P := P) hl (by rw [hrec]; simp); rw [hrec] at this; exact this, hdone _ _ (Nat.le_max_right _ _) (hI _ _ _ _ _ (by omega) (by omega) (Nat.le_max_right _ _) hi) ((World.putObj_heap_other (by omega)).trans hd)⟩
      · exact ⟨some c, _, by have := run_endLoop (P := P) hl (by rw [hrec]; simp); rw [hrec] at this; exact this, (wpIn_wide (n := 3)).2 (hstop _ c _ (Nat.le_max_right _ _) (hIx _ _ _ _ _ (by omega) (by omega) (Nat.le_max_right _ _) hi) ((World.putObj_heap_other (by omega)).trans hd))⟩
end Go.Proofs.Ytkdnplebgmmclaa
/- Rows in memory: read and written whole; what may have turned. No program. -/
namespace Go.Proofs.Ytkdnplebgmmclaa
open Go.RowKit Go.WideMaps
set_option linter.unusedSimpArgs false
set_option linter.unusedVariables false

/-! ### What may have turned -/
/-- Nothing but the blocks of S has turned. -/
structure Only (S : Nat → Prop) (w w' : World) : Prop where
  os : w'.os = w.os
  tape : w'.tape = w.tape
  output : w'.output = w.output
  size : w.heap.size ≤ w'.heap.size
  block : ∀ k, k < w.heap.size → ¬ S k → w'.heap[k]? = w.heap[k]?
theorem Only.fut {S : Nat → Prop} {w w' : World} (h : Fut w w') : Only S w w' := ⟨h.os, h.tape, h.output, h.size, fun k hk _ => Below.block h k hk⟩
theorem Only.toFut {S : Nat → Prop} {w w' : World} (h : Only S w w') (hS : ∀ k, S k → w.heap.size ≤ k) : Fut w w' := ⟨h.os, h.tape, h.output, h.size, fun k hk => h.block k hk fun hs => by have := hS k hs; omega⟩
theorem Only.refl {S : Nat → Prop} (w : World) : Only S w w := Only.fut (Fut.refl w)
theorem Only.trans {S : Nat → Prop} {a b c : World} (h : Only S a b) (k : Only S b c) : Only S a c :=
  ⟨k.os.trans h.os, k.tape.trans h.tape, k.output.trans h.output, Nat.le_trans h.size k.size, fun i hi hn => (k.block i (Nat.lt_of_lt_of_le hi h.size) hn).trans (h.block i hi hn)⟩
theorem Only.mono {S S' : Nat → Prop} {w w' : World} (h : Only S w w') (hS : ∀ k, k < w.heap.size → S k → S' k) : Only S' w w' :=
  ⟨h.os, h.tape, h.output, h.size, fun k hk hn => h.block k hk fun hs => hn (hS k hk hs)⟩
/-- .. the second step turns what the first may turn, or what is new. -/
theorem Only.then {S S' : Nat → Prop} {a b c : World} (h : Only S a b) (k : Only S' b c) (hS : ∀ i, S' i → i < a.heap.size → S i) : Only S a c :=
  ⟨k.os.trans h.os, k.tape.trans h.tape, k.output.trans h.output, Nat.le_trans h.size k.size, fun i hi hn => (k.block i (Nat.lt_of_lt_of_le hi h.size) (fun hs => hn (hS i hs hi))).trans (h.block i hi hn)⟩
theorem Only.grown {S : Nat → Prop} {w w' : World} {row : Option Nat} (hg : w.grownBy w' row) (hS : ∀ k, row = some k → S k) : Only S w w' :=
  ⟨hg.os, hg.tape, hg.output, hg.size, fun k hk hn => hg.block k hk (fun e => hn (hS k e.symm))⟩
theorem Only.set {S : Nat → Prop} {w : World} (p : Addr) (v : Value) (hS : S p.block) : Only S w (w.setCell p v) :=
  ⟨rfl, rfl, rfl, by show _ ≤ (w.heap.modify _ _).size; rw [Array.size_modify]; exact Nat.le_refl _, fun k hk hn => Below.heap_setCell w p v k (fun e => hn (e ▸ hS))⟩
theorem Only.put {S : Nat → Prop} {w : World} (g : Nat) (o : Obj) (hS : S g) : Only S w (w.putObj g o) :=
  ⟨rfl, rfl, rfl, by simp [World.putObj], fun k hk hn => World.putObj_heap_other (fun e => hn (e ▸ hS))⟩
theorem Only.keeps {S : Nat → Prop} {w w' : World} (h : Only S w w') {k : Nat} {o : Obj} (ho : w.heap[k]? = some o) (hn : ¬ S k) : w'.heap[k]? = some o :=
  (h.block k (Array.getElem?_eq_some_iff.1 ho).1 hn).trans ho
theorem Only.cell {S : Nat → Prop} {w w' : World} (h : Only S w w') {p : Addr} {v : Value} (hc : w.cell? p = some v) (hn : ¬ S p.block) : w'.cell? p = some v :=
  (World.cell?_of_block (h.block p.block (lt_of_cell hc) hn)).trans hc

/-! ### Rows in memory -/
/-- The row x lies in block b from offset off on. -/
def RowAt (w : World) (b off : Nat) (x : Rw) : Prop := Rw.ok x ∧ ∀ j c, (Rw.cells x)[j]? = some c → w.cell? ⟨b, off + j, none⟩ = some c
theorem RowAt.fut {w w' : World} {b off : Nat} {x : Rw} (h : RowAt w b off x) (hf : Fut w w') : RowAt w' b off x := ⟨h.1, fun j c hj => hf.cell (h.2 j c hj)⟩
theorem RowAt.only {S : Nat → Prop} {w w' : World} {b off : Nat} {x : Rw} (h : RowAt w b off x) (ho : Only S w w') (hn : ¬ S b) : RowAt w' b off x := ⟨h.1, fun j c hj => ho.cell (h.2 j c hj) hn⟩
theorem RowAt.of_block {w : World} {b : Nat} {t : TypeId} {fr : Nat × Nat} {x : Rw} (hx : Rw.ok x) (h : w.heap[b]? = some (.cells (Rw.cells x).toArray t fr)) : RowAt w b 0 x := ⟨hx, fun j c hj => by
  rw [Nat.zero_add]; simp [World.cell?, h, hj]⟩
theorem RowAt.new (w : World) (t : TypeId) {x : Rw} (hx : Rw.ok x) : RowAt (w.alloc (.cells (Rw.cells x).toArray t)) w.heap.size 0 x := RowAt.of_block hx (heap_alloc_new w _)
/-- An element of a list of rows. -/
theorem rows_at {w : World} {A : Option Addr} {n cap M : Nat} {xs : List Rw} (h : SlRep 24 M RR w (.slice A n cap) xs) {k : Nat} (hk : k < xs.length) : ∃ b off, A = some ⟨b, off, none⟩ ∧ RowAt w b (off + k * 24) xs[k] := by
  obtain ⟨A1, cap1, hv, _, _, h3⟩ := h
  obtain ⟨b, off, cs, hA, hl, hc, hr⟩ := h3 k _ (List.getElem?_eq_getElem hk)
  injection hv with hv _ _
  refine ⟨b, off, hv.trans hA, hr.2, fun j c hj => ?_⟩
  rw [← hr.1] at hj
  rw [Nat.add_assoc]
  exact hc j c hj
theorem rows_ok {w : World} {v : Value} {M : Nat} {xs : List Rw} (h : SlRep 24 M RR w v xs) : ∀ x ∈ xs, Rw.ok x := by
  obtain ⟨A, cap, _, _, _, h3⟩ := h
  intro x hx
  obtain ⟨i, hi⟩ := List.getElem?_of_mem hx
  obtain ⟨_, _, _, _, _, _, hr⟩ := h3 i x hi
  exact hr.2

structure RowTy (P : Program) (k e : TypeId) : Prop where
  A : ArrKey P k e 24
  he : P.underlying e = some (.int .i32)
  hsz : ∃ m, P.types.size = m + 1
  hi : (P.info? k).map (·.size) = some 24
section
variable {P : Program} {k e : TypeId} {w : World} {b off : Nat} {r : Rw} {o : Oper} {a : Act}
theorem run_loadVar_R (T : RowTy P k e) (hr : RowAt w b off r) : (loadVar k ⟨b, off, none⟩).run P w = .ok (Rw.val r) w :=
  run_loadVar_mid w b off k (Rw.cells r) _ (fun j v hj => hr.2 j v hj) T.A.hu rfl (by rw [T.hi, Rw.cells_len hr.1])
theorem exec_load_R (T : RowTy P k e) (x : Operand) (ho : o.op = .load k x) (hx : a.eval x = .pointer (some ⟨b, off, none⟩)) (hr : RowAt w b off r) : (execOp a.eval o).run P w = .ok (.value (Rw.val r)) w := by
  unfold execOp
  simp only [ho, hx, Instr.loadAt, Instr.sureAddr, Sem.run_bind, Sem.run_pure, Result.andThen_ok, run_loadVar_R T hr]
theorem wpList_of_run {ops : Array Oper} {rest : List Oper} {Q : Exit → Act → World → Prop} {v : Value} {w' : World} (hgd : Region.wanted o (yielded ops a.tmps) = true)
    (hrun : (execOp a.eval o).run P w = .ok (.value v) w') (h : wpList P ops Q rest (a.put o.dst v) w') : wpList P ops Q (o :: rest) a w := by
  refine wpList_step fun K hK => ?_
  rw [if_pos hgd]
  unfold Oper.wp
  rw [hrun]
  exact hK _ _ h
theorem wpList_of_skip {ops : Array Oper} {rest : List Oper} {Q : Exit → Act → World → Prop} {w' : World} (hgd : Region.wanted o (yielded ops a.tmps) = true)
    (hrun : (execOp a.eval o).run P w = .ok .skip w') (h : wpList P ops Q rest (a.put o.dst undef) w') : wpList P ops Q (o :: rest) a w := by
  refine wpList_step fun K hK => ?_
  rw [if_pos hgd]
  unfold Oper.wp
  rw [hrun]
  exact hK _ _ h
theorem wpList_load_R {ops : Array Oper} {rest : List Oper} {Q : Exit → Act → World → Prop} (T : RowTy P k e) (hgd : Region.wanted o (yielded ops a.tmps) = true) (x : Operand) (ho : o.op = .load k x) (hx : a.eval x = .pointer (some ⟨b, off, none⟩)) (hr : RowAt w b off r)
    (h : wpList P ops Q rest (a.put o.dst (Rw.val r)) w) : wpList P ops Q (o :: rest) a w :=
  wpList_of_run hgd (exec_load_R T x ho hx hr) h

theorem setCells_put {t : TypeId} {fr : Nat × Nat} : ∀ (vs : List Value) (o : Nat) (w : World) (arr : Array Value), w.heap[b]? = some (.cells arr t fr) →
    ∃ arr', w.setCells b o vs = w.putObj b (.cells arr' t fr) ∧ arr'.size = arr.size ∧ ∀ j, arr'[j]? = if o ≤ j ∧ j < o + vs.length ∧ j < arr.size then vs[j - o]? else arr[j]?
  | [], o, w, arr, h => ⟨arr, by
      simp only [World.setCells, World.putObj]
      have hlt := (Array.getElem?_eq_some_iff.1 h)
      obtain ⟨hl, he⟩ := hlt
      have : w.heap.setIfInBounds b (.cells arr t fr) = w.heap := by
        refine Array.ext_getElem? fun i => ?_
        by_cases hi : i = b
        · subst hi; rw [h]; simp [hl]
        · rw [Array.getElem?_setIfInBounds_ne (Ne.symm hi)]
      rw [this], rfl, fun j => by rw [if_neg (by simp; omega)]⟩
  | v :: vs, o, w, arr, h => by
    have hs : (w.setCell ⟨b, o, none⟩ v).heap[b]? = some (.cells (arr.setIfInBounds o v) t fr) := by simp [World.setCell, Array.getElem?_modify, h]
    obtain ⟨arr', h1, h2, h3⟩ := setCells_put vs (o + 1) _ _ hs
    refine ⟨arr', ?_, by rw [h2]; simp, fun j => ?_⟩
    · simp only [World.setCells]
      rw [h1]
      simp only [World.putObj, World.setCell]
      congr 1
      refine Array.ext_getElem? fun i => ?_
      by_cases hi : i = b
      · subst hi
        have hl := (Array.getElem?_eq_some_iff.1 h).1
        simp [hl]
      · rw [Array.getElem?_setIfInBounds_ne (Ne.symm hi), Array.getElem?_setIfInBounds_ne (Ne.symm hi), Array.getElem?_modify, if_neg (Ne.symm hi)]
    · rw [h3]
      simp only [Array.size_setIfInBounds, List.length_cons]
      by_cases h4 : j = o
      · subst h4
        rw [if_neg (by omega)]
        by_cases h5 : j < arr.size
        · rw [if_pos (by omega)]; simp [h5]
        · rw [if_neg (by omega)]; simp [h5]
      · rw [Array.getElem?_setIfInBounds_ne (Ne.symm h4)]
        by_cases h5 : o + 1 ≤ j ∧ j < o + 1 + vs.length ∧ j < arr.size
        · rw [if_pos h5, if_pos (by omega), show j - o = (j - (o + 1)) + 1 by omega, List.getElem?_cons_succ]
        · rw [if_neg h5, if_neg (by omega)]
/-- A row is written over a block of 24 cells. -/
theorem exec_store_R (T : RowTy P k e) {t : TypeId} {arr : Array Value} (x y : Operand) (ho : o.op = .store k x y) (hx : a.eval x = .pointer (some ⟨b, 0, none⟩)) (hy : a.eval y = Rw.val r) (hb : w.heap[b]? = some (.cells arr t (0, 0))) (hs : arr.size = 24) (hr : Rw.ok r) :
    (execOp a.eval o).run P w = .ok .skip (w.putObj b (.cells (Rw.cells r).toArray t (0, 0))) := by
  have hl := Rw.cells_len hr
  have hsz : (Rw.cells r).toArray.size = 24 := by simpa using hl
  have h1 := run_storeVar_mid (P := P) w b 0 k (Rw.cells r).toArray (fun j hj => by
    rw [hsz] at hj
    refine ⟨?_, ?_⟩
    · rw [Nat.zero_add]; simp [World.cell?, hb]; try omega
    · simp [World.frozen?, hb]) (by rw [T.hi, hsz]) (all_oneCell_toArray fun v hv => RR.one w _ r ⟨rfl, hr⟩ v hv)
  obtain ⟨arr', h2, h3, h4⟩ := setCells_put (Rw.cells r) 0 w arr hb
  have e1 : arr' = (Rw.cells r).toArray := by
    refine Array.ext_getElem? fun j => ?_
    rw [h4]
    by_cases hj : j < 24
    · rw [if_pos (by omega)]; simp
    · rw [if_neg (by omega)]
      rw [Array.getElem?_eq_none (by omega), Array.getElem?_eq_none (by omega)]
  simp only at h1
  rw [h2, e1] at h1
  unfold execOp
  simp only [ho, hx, hy, Rw.val, Instr.storeAt, Instr.sureAddr, Sem.run_bind, Sem.run_pure, Result.andThen_ok, h1]
theorem putObj_alloc (w : World) (o o' : Obj) : (w.alloc o).putObj w.heap.size o' = w.alloc o' := by
  unfold World.putObj World.alloc
  congr 1
  refine Array.ext_getElem? fun j => ?_
  by_cases hj : j = w.heap.size
  · subst hj; simp
  · rw [Array.getElem?_setIfInBounds_ne (Ne.symm hj), Array.getElem?_push, Array.getElem?_push]
    simp [hj]
theorem wpList_store_R {ops : Array Oper} {rest : List Oper} {Q : Exit → Act → World → Prop} (T : RowTy P k e) (hgd : Region.wanted o (yielded ops a.tmps) = true) {t : TypeId} {arr : Array Value} (x y : Operand) (ho : o.op = .store k x y) (hx : a.eval x = .pointer (some ⟨b, 0, none⟩)) (hy : a.eval y = Rw.val r) (hb : w.heap[b]? = some (.cells arr t (0, 0))) (hs : arr.size = 24) (hr : Rw.ok r)
    (h : wpList P ops Q rest (a.put o.dst undef) (w.putObj b (.cells (Rw.cells r).toArray t (0, 0)))) : wpList P ops Q (o :: rest) a w :=
  wpList_of_skip hgd (exec_store_R T x y ho hx hy hb hs hr) h
/-- .. over one just made. -/
theorem wpList_store_new {ops : Array Oper} {rest : List Oper} {Q : Exit → Act → World → Prop} (T : RowTy P k e) (hgd : Region.wanted o (yielded ops a.tmps) = true) {t : TypeId} {arr : Array Value} (x y : Operand) (ho : o.op = .store k x y) (hx : a.eval x = .pointer (some ⟨w.heap.size, 0, none⟩)) (hy : a.eval y = Rw.val r) (hs : arr.size = 24) (hr : Rw.ok r)
    (h : wpList P ops Q rest (a.put o.dst undef) (w.alloc (.cells (Rw.cells r).toArray t))) : wpList P ops Q (o :: rest) a (w.alloc (.cells arr t)) := by
  refine wpList_store_R T hgd x y ho hx hy (heap_alloc_new w _) hs hr ?_
  rw [putObj_alloc]; exact h
end
@[simp] theorem Rw.val_cells (x : Rw) : (Rw.val x).cells = (Rw.cells x).toArray := rfl
end Go.Proofs.Ytkdnplebgmmclaa
/- relation.Relation: what it is in memory; New, Arity, Len, Gone, At, Has. -/
namespace Go.Proofs.Ytkdnplebgmmclaa
open Go.RowKit Go.WideMaps
set_option linter.unusedSimpArgs false
set_option linter.unusedVariables false

def zeroRow : Rw := [0, 0, 0, 0, 0, 0, 0, 0, 0, 0, 0, 0, 0, 0, 0, 0, 0, 0, 0, 0, 0, 0, 0, 0]
theorem zeroRow_ok : Rw.ok zeroRow := ⟨rfl, fun a ha => by
  have : a = 0 := by simpa [zeroRow] using ha
  subst this; decide⟩
/-- Where a row stands. -/
def idx (xs : List Rw) (x : Rw) : Option Int := if x ∈ xs then some ((xs.idxOf x : Nat) : Int) else none
theorem idx_isSome (xs : List Rw) (x : Rw) : (idx xs x).isSome = decide (x ∈ xs) := by
  unfold idx
  by_cases h : x ∈ xs <;> simp [h]
theorem idx_push {xs : List Rw} {x : Rw} (h : x ∉ xs) : (fun y => if y = x then some ((xs.length : Nat) : Int) else idx xs y) = idx (xs ++ [x]) := by
  funext y
  unfold idx
  by_cases hy : y = x
  · subst hy
    simp [h, List.idxOf_append]
  · rw [if_neg hy]
    by_cases hm : y ∈ xs
    · simp [hm, List.idxOf_append]
    · simp [hm, hy]

def pfoot (pb mb : Nat) (lv : Value) (k : Nat) : Prop := k = pb ∨ k = mb ∨ lv.ownBlock = some k
def foot (b pb mb : Nat) (lv : Value) (k : Nat) : Prop := k = b ∨ pfoot pb mb lv k
section
variable {B : Nat} {w w' : World} {b pb mb : Nat} {lv : Value} {ar gone : Nat} {xs : List Rw} {S : Nat → Prop}
theorem OwnL.only {α : Type} {sz : Nat} {e : TypeId} {R : World → List Value → α → Prop} {v : Value} {ys : List α} (h : OwnL sz B e R w v ys) (hR : ∀ cs x, R w cs x → R w' cs x) (hg : Only S w w') (hne : ∀ k, v.ownBlock = some k → ¬ S k) : OwnL sz B e R w' v ys := by
  obtain ⟨css, h1, h2, h3, h4⟩ := h
  refine ⟨css, h1, fun i cs x hi hx => ⟨(h2 i cs x hi hx).1, hR _ _ (h2 i cs x hi hx).2⟩, h3, ?_⟩
  rcases h4 with h4 | ⟨g, cap, cur, a1, a2, a3, a4⟩
  · exact .inl h4
  · exact .inr ⟨g, cap, cur, a1, a2, hg.keeps a3 (hne g (by rw [a1]; rfl)), a4⟩
theorem cell_at {g : Nat} {cs : Array Value} {t : TypeId} {fr : Nat × Nat} (h : w.heap[g]? = some (.cells cs t fr)) (j : Nat) (v : Value) (hj : cs[j]? = some v) : w.cell? ⟨g, j, none⟩ = some v := by
  simp [World.cell?, h, hj]
theorem free_at {g : Nat} {cs : Array Value} {t : TypeId} (h : w.heap[g]? = some (.cells cs t (0, 0))) (j : Nat) : w.frozen? ⟨g, j, none⟩ = false := by
  simp [World.frozen?, h]
end

/-! ### Is it there? Its arity, its rows, its number of those that are gone -/
end Go.Proofs.Ytkdnplebgmmclaa
/- Lists of tuples and lists of facts: as arguments hold them, as the call's own; append. No program. -/
namespace Go.Proofs.Ytkdnplebgmmclaa
open Go.RowKit
set_option linter.unusedSimpArgs false
set_option linter.unusedVariables false

/-! ### Within: tuples of any make -/
def RT (w : World) (cs : List Value) (xs : List V) : Prop := ∃ v, cs = [v] ∧ Vals w v xs
theorem RT.stays : Stays RT := fun _ _ _ _ hf ⟨v, h1, h2⟩ => ⟨v, h1, h2.fut RV.stays hf⟩
abbrev Tups : World → Value → List (List V) → Prop := SlRep 1 9223372036854775807 RT
abbrev TupsA : World → Value → List (List V) → Prop := SlRep 1 5864062014805 (SlR 3 4398046511104 RV)
theorem TupsA.tups {w : World} {v : Value} {ts : List (List V)} (h : TupsA w v ts) : Tups w v ts :=
  (SlRep.imp h fun cs x ⟨v, h1, h2⟩ => (⟨v, h1, ValsA.vals h2⟩ : RT w cs x)).more (by omega)
theorem Tups.at_ {w : World} {A : Option Addr} {n cap : Nat} {ts : List (List V)} (h : Tups w (.slice A n cap) ts) {k : Nat} (hk : k < ts.length) :
    ∃ b off A' cap', A = some ⟨b, off, none⟩ ∧ w.cell? ⟨b, off + k, none⟩ = some (.slice A' (ts[k]).length cap') ∧ (ts[k]).length ≤ cap' ∧ cap' ≤ 9223372036854775807 ∧ Vals w (.slice A' (ts[k]).length cap') ts[k] := by
  obtain ⟨A1, cap1, hv, _, _, h3⟩ := h
  obtain ⟨b, off, cs, hA, hl, hc, u, hr, hu⟩ := h3 k _ (List.getElem?_eq_getElem hk)
  injection hv with hv _ _
  subst hr
  obtain ⟨A', cap', rfl, h4, h5⟩ := SlRep.form hu
  exact ⟨b, off, A', cap', hv.trans hA, by have := hc 0 _ rfl; simpa using this, h4, h5, hu⟩
def RG (w : World) (cs : List Value) (x : Fc) : Prop := ∃ v, cs = [.string x.p, v] ∧ x.p.size ≤ 140737488351232 ∧ Vals w v x.a
theorem RG.stays : Stays RG := fun _ _ _ _ hf ⟨v, h1, h2, h3⟩ => ⟨v, h1, h2, h3.fut RV.stays hf⟩
abbrev FacsG : World → Value → List Fc → Prop := SlRep 2 9223372036854775807 RG
theorem Facs.g {w : World} {v : Value} {fs : List Fc} (h : Facs w v fs) : FacsG w v fs :=
  (SlRep.imp h fun cs x ⟨v, h1, h2, h3⟩ => (⟨v, h1, h2, ValsA.vals h3⟩ : RG w cs x)).more (by omega)
theorem FacsG.at_ {w : World} {A : Option Addr} {n cap : Nat} {fs : List Fc} (h : FacsG w (.slice A n cap) fs) {k : Nat} (hk : k < fs.length) :
    ∃ b off A' cap', A = some ⟨b, off, none⟩ ∧ (fs[k]).p.size ≤ 140737488351232 ∧ w.cell? ⟨b, off + k * 2, none⟩ = some (.string (fs[k]).p) ∧ w.cell? ⟨b, off + k * 2 + 1, none⟩ = some (.slice A' (fs[k]).a.length cap') ∧ (fs[k]).a.length ≤ cap' ∧ cap' ≤ 9223372036854775807 ∧ Vals w (.slice A' (fs[k]).a.length cap') (fs[k]).a := by
  obtain ⟨A1, cap1, hv, _, _, h3⟩ := h
  obtain ⟨b, off, cs, hA, hl, hc, u, hr, hp, hu⟩ := h3 k _ (List.getElem?_eq_getElem hk)
  injection hv with hv _ _
  subst hr
  obtain ⟨A', cap', rfl, h4, h5⟩ := SlRep.form hu
  exact ⟨b, off, A', cap', hv.trans hA, hp, hc 0 _ rfl, hc 1 _ rfl, h4, h5, hu⟩
theorem FacsG.size {w : World} {v : Value} {fs : List Fc} (h : FacsG w v fs) : ∀ f ∈ fs, f.p.size ≤ 140737488351232 := by
  obtain ⟨A, cap, _, _, _, h3⟩ := h
  intro f hf
  obtain ⟨i, hi⟩ := List.getElem?_of_mem hf
  obtain ⟨_, _, _, _, _, _, _, _, hp, _⟩ := h3 i f hi
  exact hp

/-! ### Lists of the call's own, whose elements lie in memory of the call's own -/
section
variable {α : Type} {sz B M : Nat} {e ei : TypeId} {R R' : World → List Value → α → Prop} {w w' : World} {v u : Value} {xs ys : List α}
theorem OwnL.typed (h : OwnL sz B e R w v xs) : ∀ k, v.ownBlock = some k → ∃ arr, w.heap[k]? = some (.cells arr e (0, 0)) := by
  intro k hk
  obtain ⟨css, h1, h2, h3, h4⟩ := h
  rcases h4 with ⟨rfl, _⟩ | ⟨g, cap, cur, rfl, a2, a3, _⟩
  · cases hk
  · simp only [Value.ownBlock, Option.some.injEq] at hk
    subst hk
    exact ⟨cur, a3⟩
theorem OwnL.imp (h : OwnL sz B e R w v xs) (hR : ∀ cs x, R w cs x → R' w cs x) : OwnL sz B e R' w v xs := by
  obtain ⟨css, h1, h2, h3⟩ := h
  exact ⟨css, h1, fun i cs x hi hx => ⟨(h2 i cs x hi hx).1, hR _ _ (h2 i cs x hi hx).2⟩, h3⟩
theorem OwnL.base {B' : Nat} (h : OwnL sz B e R w v xs) (hB : B' ≤ B) : OwnL sz B' e R w v xs := by
  obtain ⟨css, h1, h2, h3, h4⟩ := h
  refine ⟨css, h1, h2, h3, ?_⟩
  rcases h4 with h4 | ⟨g, cap, cur, a1, a2, a3⟩
  · exact .inl h4
  · exact .inr ⟨g, cap, cur, a1, Nat.le_trans hB a2, a3⟩
/-- What a write into a row of another type does not turn. -/
def Keeps (e : TypeId) (R : World → List Value → α → Prop) : Prop :=
  ∀ (w w' : World) (row : Option Nat) (cs : List Value) (x : α), R w cs x → w.grownBy w' row → (∀ k, row = some k → ∃ arr, w.heap[k]? = some (.cells arr e (0, 0))) → R w' cs x
theorem OwnL.kept {row : Option Nat} (h : OwnL sz B ei R w v xs) (hR : ∀ cs x, R w cs x → R w' cs x) (hg : w.grownBy w' row) (ht : ∀ k, row = some k → ∃ arr, w.heap[k]? = some (.cells arr e (0, 0))) (hne : ei ≠ e) : OwnL sz B ei R w' v xs := by
  have hty := h.typed
  obtain ⟨css, h1, h2, h3⟩ := h
  refine ⟨css, h1, fun i cs x hi hx => ⟨(h2 i cs x hi hx).1, hR _ _ (h2 i cs x hi hx).2⟩, h3.kept hg ?_⟩
  cases hv : v.ownBlock with
  | none => exact .inl rfl
  | some k =>
    right
    intro hr
    obtain ⟨arr, h5⟩ := hty k hv
    obtain ⟨arr', h6⟩ := ht k hr.symm
    rw [h5] at h6
    injection h6 with h6
    injection h6 with _ h7
    exact hne h7
/-- APPEND, elements that Keep. -/
theorem wpList_append_L {P : Program} {ops : Array Oper} {rest : List Oper} {o : Oper} {a : Act} {Q : Exit → Act → World → Prop} (hgd : Region.wanted o (yielded ops a.tmps) = true) (s x : Operand) (t : TypeId)
    (ho : o.op = .call { callee := .builtin .append, args := #[s, x], argTypes := #[t, t] }) (ht : P.underlying t = some (.slice e)) (z : Value) (bytes : Nat)
    (hinfo : (P.info? e).map (fun i => (i.zero, i.size, i.bytes)) = some (some z, sz, bytes)) (hzs : z.cells.size = sz) (hsz : 0 < sz)
    (hR1 : ∀ w cs x, R w cs x → ∀ u ∈ cs, u.oneCell' = true) (hRk : Keeps e R)
    (hs : a.eval s = v) (hx : a.eval x = u) (hown : OwnL sz B e R w v xs) (hu : SlRep sz M R w u ys) (h63 : xs.length + ys.length ≤ maxLen) (hbytes : (xs.length + ys.length) * bytes ≤ 140737488355328) (hbase : B ≤ w.heap.size)
    (h : ∀ v' w', OwnL sz B e R w' v' (xs ++ ys) → w.grownBy w' v.ownBlock → wpList P ops Q rest (a.put o.dst v') w') : wpList P ops Q (o :: rest) a w := by
  obtain ⟨i, hi, hz, hs', hb⟩ := info_parts hinfo
  obtain ⟨v', w', hr, h2, h3⟩ := run_append_list t o.type i z bytes ht hi hz hs' hb hzs hsz hR1 (fun w' cs x hr hg => hRk w w' _ cs x hr hg hown.typed) hown hu h63 hbytes hbase
  refine wpList_step fun K hK => ?_
  rw [if_pos hgd]
  unfold Oper.wp
  have hrun : (execOp a.eval o).run P w = .ok (.value v') w' := by
    unfold execOp
    simp only [ho, resolve, invoke, builtin, Sem.run_bind, Sem.run_pure, Result.andThen_ok, List.map_toArray, List.map_cons, List.map_nil, hs, hx, hr]
  rw [hrun]
  exact hK _ _ (h v' w' h2 h3)
end

/-- Tuples, facts in memory of the call's own: B: from this block on. -/
def RTo (B : Nat) (ev : TypeId) (w : World) (cs : List Value) (xs : List V) : Prop := ∃ v, cs = [v] ∧ OwnV B ev w v xs
def RGo (B : Nat) (ev : TypeId) (w : World) (cs : List Value) (x : Fc) : Prop := ∃ v, cs = [.string x.p, v] ∧ x.p.size ≤ 140737488351232 ∧ OwnV B ev w v x.a
section
variable {B M : Nat} {e ev : TypeId} {w w' : World} {v u : Value}
theorem RTo.stays : Stays (RTo B ev) := fun _ _ _ _ hf ⟨v, h1, h2⟩ => ⟨v, h1, h2.fut RV.stays hf⟩
theorem RGo.stays : Stays (RGo B ev) := fun _ _ _ _ hf ⟨v, h1, h2, h3⟩ => ⟨v, h1, h2, h3.fut RV.stays hf⟩
theorem RTo.keeps (hne : ev ≠ e) : Keeps e (RTo B ev) := fun w w' row cs x ⟨v, h1, h2⟩ hg ht => ⟨v, h1, h2.kept (fun _ _ h => h) hg ht hne⟩
theorem RGo.keeps (hne : ev ≠ e) : Keeps e (RGo B ev) := fun w w' row cs x ⟨v, h1, h2, h3⟩ hg ht => ⟨v, h1, h2, h3.kept (fun _ _ h => h) hg ht hne⟩
theorem slice_one {A : Option Addr} {n c : Nat} : (Value.slice A n c).oneCell' = true := rfl
theorem RTo.one : ∀ (w : World) cs x, RTo B ev w cs x → ∀ u ∈ cs, u.oneCell' = true := fun w cs x ⟨v, h1, h2⟩ u hu => by
  obtain ⟨A, cap, rfl, _⟩ := h2.vals.form
  subst h1
  simp only [List.mem_singleton] at hu
  subst hu; rfl
theorem RGo.one : ∀ (w : World) cs x, RGo B ev w cs x → ∀ u ∈ cs, u.oneCell' = true := fun w cs x ⟨v, h1, _, h2⟩ u hu => by
  obtain ⟨A, cap, rfl, _⟩ := h2.vals.form
  subst h1
  simp only [List.mem_cons, List.not_mem_nil, or_false] at hu
  rcases hu with rfl | rfl <;> rfl
theorem OwnT.tups {ts : List (List V)} (h : OwnL 1 B e (RTo B ev) w v ts) : Tups w v ts :=
  (h.rep.imp fun cs x ⟨v, h1, h2⟩ => (⟨v, h1, h2.vals⟩ : RT w cs x)).more (by unfold maxLen; omega)
theorem OwnG.facs {fs : List Fc} (h : OwnL 2 B e (RGo B ev) w v fs) : FacsG w v fs :=
  (h.rep.imp fun cs x ⟨v, h1, h2, h3⟩ => (⟨v, h1, h2, h3.vals⟩ : RG w cs x)).more (by unfold maxLen; omega)
/-- What was there is told of as it was, whatever is written into rows of the call's own. -/
theorem const_keeps {α : Type} {R : World → List Value → α → Prop} (w0 : World) : Keeps e (fun _ => R w0) := fun _ _ _ _ _ h _ _ => h
theorem RT.one : ∀ (w : World) cs x, RT w cs x → ∀ u ∈ cs, u.oneCell' = true := fun w cs x ⟨v, h1, h2⟩ u hu => by
  obtain ⟨A, cap, rfl, _⟩ := h2.form
  subst h1
  simp only [List.mem_singleton] at hu
  subst hu; rfl
theorem RG.one : ∀ (w : World) cs x, RG w cs x → ∀ u ∈ cs, u.oneCell' = true := fun w cs x ⟨v, h1, _, h2⟩ u hu => by
  obtain ⟨A, cap, rfl, _⟩ := h2.form
  subst h1
  simp only [List.mem_cons, List.not_mem_nil, or_false] at hu
  rcases hu with rfl | rfl <;> rfl
end

def partsT : List (List V) → Nat
  | [] => 0
  | t :: r => 1 + t.length + partsT r
theorem partsT_take (ts : List (List V)) (k : Nat) (hk : k < ts.length) : partsT (ts.take (k + 1)) = partsT (ts.take k) + (1 + (ts[k]).length) := by
  induction ts generalizing k with
  | nil => simp at hk
  | cons f r ih =>
    cases k with
    | zero => simp [partsT]
    | succ k => simp only [List.take_succ_cons, partsT, List.getElem_cons_succ]; rw [ih k (by simpa using hk)]; omega
theorem partsT_le (ts : List (List V)) (k : Nat) : partsT (ts.take k) ≤ partsT ts := by
  induction ts generalizing k with
  | nil => simp
  | cons f r ih =>
    cases k with
    | zero => simp [partsT]
    | succ k => simp only [List.take_succ_cons, partsT]; have := ih k; omega
theorem partsT_len (ts : List (List V)) : ts.length ≤ partsT ts := by
  induction ts with
  | nil => simp
  | cons f r ih => simp only [List.length_cons, partsT]; omega
theorem partsT_mem {ts : List (List V)} {t : List V} (h : t ∈ ts) : t.length ≤ partsT ts := by
  induction ts with
  | nil => simp at h
  | cons f r ih =>
    simp only [partsT]
    rcases List.mem_cons.1 h with rfl | h
    · omega
    · have := ih h; omega
end Go.Proofs.Ytkdnplebgmmclaa
/- What a predicate's facts are counted in: the number, and of each column the map of its values. -/
namespace Go.Proofs.Ytkdnplebgmmclaa
open Go.RowKit Go.WideMaps Go.Maps
set_option linter.unusedSimpArgs false
set_option linter.unusedVariables false

abbrev tCn : TypeId := 101
abbrev tMp : TypeId := 102
def unit0 : Value := .agg #[]
/-- A list of maps. -/
def RMp (_ : World) (cs : List Value) (b : Nat) : Prop := cs = [.map (some b)]
theorem RMp.stays : Stays RMp := fun _ _ _ _ _ h => h
theorem RMp.same : ∀ (w w' : World) cs x, RMp w cs x → RMp w' cs x := fun _ _ _ _ h => h
theorem RMp.one : ∀ (w : World) cs x, RMp w cs x → ∀ u ∈ cs, u.oneCell' = true := fun w cs x h u hu => by
  obtain rfl : cs = _ := h
  simp only [List.mem_singleton] at hu
  subst hu; rfl
/-- A column: its map's block, its values in the order in which they came. -/
abbrev Col : Type := Nat × List V
def colE (l : List V) : List (V × Value) := l.map fun v => (v, unit0)
structure EntI (B : Nat) (w : World) (blk : Nat) (rows : Int) (lv : Value) (cols : List Col) : Prop where
  cell : w.heap[blk]? = some (.cells #[.int .i64 rows, lv] tCn (0, 0))
  list : OwnL 1 B tMp RMp w lv (cols.map (·.1))
  maps : ∀ (i : Nat) (c : Col), cols[i]? = some c → MapE V.val w c.1 (colE c.2) ∧ ∀ v ∈ c.2, v.ok
  nodup : (cols.map (·.1)).Nodup
  low : B ≤ blk ∧ ∀ c ∈ cols, B ≤ c.1
def efoot (blk : Nat) (lv : Value) (cols : List Col) (k : Nat) : Prop := k = blk ∨ lv.ownBlock = some k ∨ ∃ c ∈ cols, c.1 = k
section
variable {B : Nat} {w w' : World} {blk : Nat} {rows : Int} {lv : Value} {cols : List Col} {S : Nat → Prop}
theorem map_ne {α : Type} {kv : α → Value} {b k : Nat} {l : List (α × Value)} {arr : Array Value} {t : TypeId} {fr : Nat × Nat} (h : MapE kv w b l) (hk : w.heap[k]? = some (.cells arr t fr)) : b ≠ k := fun e => by
  obtain ⟨es, c, h1, _⟩ := h
  rw [e, hk] at h1
  cases h1
theorem EntI.lt (h : EntI B w blk rows lv cols) : ∀ k, efoot blk lv cols k → B ≤ k ∧ k < w.heap.size := by
  rintro k (rfl | hk | ⟨c, hc, rfl⟩)
  · exact ⟨h.low.1, (Array.getElem?_eq_some_iff.1 h.cell).1⟩
  · exact h.list.block k hk
  · obtain ⟨i, hi⟩ := List.mem_iff_getElem?.1 hc
    exact ⟨h.low.2 c hc, (h.maps i c hi).1.lt⟩
theorem EntI.only (h : EntI B w blk rows lv cols) (hg : Only S w w') (hne : ∀ k, efoot blk lv cols k → ¬ S k) : EntI B w' blk rows lv cols where
  cell := hg.keeps h.cell (hne _ (.inl rfl))
  list := h.list.only (fun _ _ h => h) hg fun k hk => hne k (.inr (.inl hk))
  maps i c hi := ⟨(h.maps i c hi).1.kept (hg.block c.1 (h.maps i c hi).1.lt (hne _ (.inr (.inr ⟨c, List.mem_of_getElem? hi, rfl⟩)))), (h.maps i c hi).2⟩
  nodup := h.nodup
  low := h.low
theorem EntI.fut (h : EntI B w blk rows lv cols) (hf : Fut w w') : EntI B w' blk rows lv cols := h.only (S := fun _ => False) (Only.fut hf) fun _ _ h => h
/-- The list's block is none of the others. -/
theorem EntI.sep (h : EntI B w blk rows lv cols) : (∀ k, lv.ownBlock = some k → k ≠ blk ∧ ∀ c ∈ cols, c.1 ≠ k) ∧ ∀ c ∈ cols, c.1 ≠ blk := by
  refine ⟨fun k hk => ⟨fun e => ?_, fun c hc => ?_⟩, fun c hc => ?_⟩
  · obtain ⟨arr, h1⟩ := h.list.typed k hk
    rw [e, h.cell] at h1
    injection h1 with h1
    injection h1 with _ h2
    exact absurd h2 (by decide)
  · obtain ⟨i, hi⟩ := List.mem_iff_getElem?.1 hc
    obtain ⟨arr, h1⟩ := h.list.typed k hk
    exact map_ne (h.maps i c hi).1 h1
  · obtain ⟨i, hi⟩ := List.mem_iff_getElem?.1 hc
    exact map_ne (h.maps i c hi).1 h.cell
/-- The number written over. -/
theorem EntI.row (h : EntI B w blk rows lv cols) (r : Int) : EntI B (w.setCell ⟨blk, 0, none⟩ (.int .i64 r)) blk r lv cols := by
  have O : Only (fun k => k = blk) w (w.setCell ⟨blk, 0, none⟩ (.int .i64 r)) := Only.set _ _ rfl
  have hs := h.sep
  exact { cell := by simp [World.setCell, Array.getElem?_modify, h.cell]
          list := h.list.only (fun _ _ h => h) O fun k hk => (hs.1 k hk).1
          maps := fun i c hi => ⟨(h.maps i c hi).1.kept (O.block c.1 (h.maps i c hi).1.lt (hs.2 c (List.mem_of_getElem? hi))), (h.maps i c hi).2⟩
          nodup := h.nodup
          low := h.low }
/-- The list written over: w1 is the world in which the longer list was made. -/
theorem EntI.cols' {lv' : Value} {cols' : List Col} {rows : Int} (hb : w.heap[blk]? = some (.cells #[.int .i64 rows, lv] tCn (0, 0))) (hl : OwnL 1 B tMp RMp w lv' (cols'.map (·.1))) (hm : ∀ (i : Nat) (c : Col), cols'[i]? = some c → MapE V.val w c.1 (colE c.2) ∧ ∀ v ∈ c.2, v.ok) (hn : (cols'.map (·.1)).Nodup) (hlow : B ≤ blk ∧ ∀ c ∈ cols', B ≤ c.1) :
    EntI B (w.setCell ⟨blk, 1, none⟩ lv') blk rows lv' cols' := by
  have O : Only (fun k => k = blk) w (w.setCell ⟨blk, 1, none⟩ lv') := Only.set _ _ rfl
  refine ⟨by simp [World.setCell, Array.getElem?_modify, hb], hl.only (fun _ _ h => h) O fun k hk e => ?_, fun i c hi => ⟨(hm i c hi).1.kept (O.block c.1 (hm i c hi).1.lt (map_ne (hm i c hi).1 hb)), (hm i c hi).2⟩, hn, hlow⟩
  obtain ⟨arr, h1⟩ := hl.typed k hk
  rw [e, hb] at h1
  injection h1 with h1
  injection h1 with _ h2
  exact absurd h2 (by decide)
/-- A column's map has turned. -/
theorem EntI.put {i : Nat} {c : Col} {l : List V} (h : EntI B w blk rows lv cols) (hi : cols[i]? = some c) (hg : w.grownBy w' (some c.1)) (hm : MapE V.val w' c.1 (colE l)) (hok : ∀ v ∈ l, v.ok) : EntI B w' blk rows lv (cols.set i (c.1, l)) := by
  have O : Only (fun k => k = c.1) w w' := Only.grown hg fun k hk => by injection hk with hk; exact hk.symm
  have hs := h.sep
  have hc := List.mem_of_getElem? hi
  have hil := (List.getElem?_eq_some_iff.1 hi)
  have he : (cols.set i (c.1, l)).map (·.1) = cols.map (·.1) := by
    rw [List.map_set]
    refine List.ext_getElem? fun j => ?_
    rw [List.getElem?_set]
    split
    · rename_i hij
      subst hij
      split
      · rw [List.getElem?_map, hi]; rfl
      · rename_i h2; rw [List.length_map] at h2; exact absurd hil.1 h2
    · rfl
  refine ⟨O.keeps h.cell (fun e => hs.2 c hc e.symm), by rw [he]; exact h.list.only (fun _ _ h => h) O fun k hk e => (hs.1 k hk).2 c hc e.symm, fun j d hj => ?_, by rw [he]; exact h.nodup, h.low.1, fun d hd => ?_⟩
  · rw [List.getElem?_set] at hj
    split at hj
    · split at hj
      · injection hj with hj
        subst hj
        exact ⟨hm, hok⟩
      · cases hj
    · rename_i hij
      refine ⟨(h.maps j d hj).1.kept (O.block d.1 (h.maps j d hj).1.lt fun e => hij ?_), (h.maps j d hj).2⟩
      have hjl := List.getElem?_eq_some_iff.1 hj
      refine (List.getElem_inj (xs := cols.map (·.1)) (h₀ := by rw [List.length_map]; exact hil.1) (h₁ := by rw [List.length_map]; exact hjl.1) h.nodup).1 ?_
      rw [List.getElem_map, List.getElem_map, hil.2, hjl.2]
      exact e.symm
  · rcases List.mem_or_eq_of_mem_set hd with hd | rfl
    · exact h.low.2 d hd
    · exact h.low.2 c hc
end
end Go.Proofs.Ytkdnplebgmmclaa
