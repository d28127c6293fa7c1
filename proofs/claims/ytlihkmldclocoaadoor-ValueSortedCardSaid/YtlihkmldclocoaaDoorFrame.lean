/-
  What a call changes among blocks of its own: all but a few blocks are as they were. copy out of a string; a step of a range over a string wherever its iterator lies. Generic; no program.
-/
import Derived.Test.YtlihkmldclocoaaDoorOwn
import Derived.Laws.RangeAny
import Derived.Lib.AppendStr
import Derived.Laws.CopyRow
import Derived.Laws.IdiomStrings
import Derived.OneCell
namespace Go.Proofs.YtlihkmldclocoaaDoor
open Go.RowKit
set_option linter.unusedSimpArgs false
set_option linter.unusedVariables false

/-- Every block that was there is as it was, but for these. -/
def Only (l : List Nat) (w w' : World) : Prop :=
  w.heap.size ≤ w'.heap.size ∧ (∀ k, k < w.heap.size → k ∉ l → w'.heap[k]? = w.heap[k]?) ∧ ∀ B, B ≤ w.heap.size → (∀ g ∈ l, B ≤ g) → Below B w w'
theorem Only.fut {l : List Nat} {w w' : World} (h : Fut w w') : Only l w w' := ⟨h.size, fun k hk _ => Below.block h k hk, fun B hB _ => Below.mono h hB⟩
theorem Only.refl (l : List Nat) (w : World) : Only l w w := .fut (.refl w)
theorem Only.trans {l : List Nat} {a b c : World} (h : Only l a b) (k : Only l b c) : Only l a c :=
  ⟨Nat.le_trans h.1 k.1, fun i hi hl => (k.2.1 i (Nat.lt_of_lt_of_le hi h.1) hl).trans (h.2.1 i hi hl), fun B hB hl => (h.2.2 B hB hl).trans (k.2.2 B (Nat.le_trans hB h.1) hl)⟩
theorem Only.more {l m : List Nat} {w w' : World} (h : Only l w w') (hl : ∀ k ∈ l, k ∈ m) : Only m w w' :=
  ⟨h.1, fun k hk hm => h.2.1 k hk fun hk' => hm (hl k hk'), fun B hB hm => h.2.2 B hB fun g hg => hm g (hl g hg)⟩
theorem Only.set {l : List Nat} (w : World) (b : Nat) (u : Value) (hb : b ∈ l) : Only l w (w.setCell ⟨b, 0, none⟩ u) :=
  ⟨by simp, fun k _ hk => Below.heap_setCell _ _ _ _ (fun e => hk (by have : k = b := e; rw [this]; exact hb)), fun B hB hl => (Below.refl B w).setCell (p := ⟨b, 0, none⟩) (hl b hb) u⟩
theorem Only.setP {l : List Nat} (w : World) (p : Addr) (u : Value) (hb : p.block ∈ l) : Only l w (w.setCell p u) :=
  ⟨by simp, fun k _ hk => Below.heap_setCell _ _ _ _ (fun e => hk (by rw [show k = p.block from e]; exact hb)), fun B hB hl => (Below.refl B w).setCell (p := p) (hl p.block hb) u⟩
theorem Only.row {l : List Nat} (w : World) (g : Nat) (cs : Array Value) (hb : g ∈ l) : Only l w (w.setRow g cs) :=
  ⟨by simp [World.setRow], fun k _ hk => setRow_other w g k cs (fun e => hk (e ▸ hb)), fun B hB hl => ⟨rfl, rfl, rfl, by simp [World.setRow], fun k hk => setRow_other w g k cs (by have := hl g hb; omega)⟩⟩
theorem Only.at_ {l : List Nat} {w w' : World} (h : Only l w w') {k : Nat} {o : Obj} (hk : w.heap[k]? = some o) (hl : k ∉ l) : w'.heap[k]? = some o := (h.2.1 k (lt_of_block hk) hl).trans hk
theorem Only.below {l : List Nat} {w w' : World} (h : Only l w w') {B : Nat} (hB : B ≤ w.heap.size) (hl : ∀ g ∈ l, B ≤ g) : Below B w w' := h.2.2 B hB hl

/-- A step of a range over a string, wherever the iterator lies. -/
def World.stepIter (w : World) (k : Nat) (s : ByteArray) (pos : Nat) : World := { w with heap := w.heap.setIfInBounds k (.stringIter s pos) }
theorem stepIter_at (w : World) (k : Nat) (s : ByteArray) (pos : Nat) (h : k < w.heap.size) : (World.stepIter w k s pos).heap[k]? = some (.stringIter s pos) := by
  unfold World.stepIter; simp [h]
theorem Only.step {l : List Nat} (w : World) (k : Nat) (s : ByteArray) (pos : Nat) (hb : k ∈ l) : Only l w (World.stepIter w k s pos) :=
  have e : ∀ j, j ≠ k → (World.stepIter w k s pos).heap[j]? = w.heap[j]? := fun j hj => by
    unfold World.stepIter
    simp [Array.getElem?_setIfInBounds, Ne.symm hj]
  ⟨by simp [World.stepIter], fun j _ hj => e j (fun h => hj (h ▸ hb)), fun B hB hl => ⟨rfl, rfl, rfl, by simp [World.stepIter], fun j hj => e j (by have := hl k hb; omega)⟩⟩
theorem run_next_at {P : Program} (w : World) (k : Nat) (s : ByteArray) (pos : Nat) (ty : TypeId) (hk : w.heap[k]? = some (.stringIter s pos)) (h : pos < s.size) :
    (Instr.next (.pointer (some ⟨k, 0, none⟩)) true ty).run P w = .ok (.tuple #[.bool true, .int .i64 pos, .int .i32 (Utf8.decode s pos).1]) (World.stepIter w k s (pos + (Utf8.decode s pos).2)) := by
  simp only [Instr.next, getObj, setObj, Sem.run_bind, Sem.run, hk, Result.andThen, h, if_true]
  simp [goInt, World.stepIter]
theorem run_next_stop {P : Program} (w : World) (k : Nat) (s : ByteArray) (pos : Nat) (ty : TypeId) (hk : w.heap[k]? = some (.stringIter s pos)) (h : ¬ pos < s.size) :
    (Instr.next (.pointer (some ⟨k, 0, none⟩)) true ty).run P w = .ok (.tuple #[.bool false]) w := by
  simp [Instr.next, getObj, Sem.run, hk, h]

/-- copy, out of a string. -/
theorem run_copy_str {P : Program} (w : World) (dT sT ty elem : TypeId) (g o dLen dCap : Nat) (dp : Option Addr) (s : ByteArray) (cur : Array Value) (t : TypeId)
    (hu : P.underlying dT = some (.slice elem)) (hs : (P.info? elem).map (·.size) = some 1)
    (hg : w.heap[g]? = some (.cells cur t (0, 0))) (hn : s.size ≤ dLen) (hp : 0 < s.size → dp = some ⟨g, o, none⟩) (hfit : o + s.size ≤ cur.size) :
    (Builtin.copy_ #[dT, sT] ty #[.slice dp dLen dCap, .string s]).run P w =
      .ok (goInt s.size) (w.setRow g (cur.toList.take o ++ Lib.strCells s ++ cur.toList.drop (o + s.size)).toArray) := by
  have hl := Lib.run_firstCells_string (P := P) w 1 s
  have hmin : Nat.min s.size dLen = s.size := Nat.min_eq_left hn
  have hlen := Lib.strCells_length s
  cases hq : P.info? elem with
  | none => simp [hq] at hs
  | some i =>
    have hi : i.size = 1 := by simpa [hq] using hs
    by_cases h0 : s.size = 0
    · have he : Lib.strCells s = [] := List.eq_nil_of_length_eq_zero (by rw [hlen, h0])
      have hw : w.setRow g (cur.toList.take o ++ Lib.strCells s ++ cur.toList.drop (o + s.size)).toArray = w := by
        rw [he, h0, List.append_nil, Nat.add_zero, List.take_append_drop]
        exact setRow_self w g cur t (0, 0) hg
      rw [hw]
      rw [he] at hl
      cases dp <;> simp [Builtin.copy_, run_underlying hu, Builtin.lenOf, sizeOf, typeInfo, hq, hi, hmin, hl, storeCells]
    · obtain rfl := hp (by omega)
      have hst := run_storeCells_at P g o t (Lib.strCells s) 0 cur w hg (by rw [hlen]; simpa using hfit) (Lib.strCells_oneCell s)
      simp only [Nat.add_zero, hlen] at hst
      simp [Builtin.copy_, run_underlying hu, Builtin.lenOf, sizeOf, typeInfo, hq, hi, hmin, hl, hst]
theorem wpList_copy_str {P : Program} {ops : Array Oper} {rest : List Oper} {o : Oper} {a : Act} {Q : Exit → Act → World → Prop} {w : World} (hgd : Region.wanted o (yielded ops a.tmps) = true) (d x : Operand) (dT sT elem : TypeId)
    (ho : o.op = .call { callee := .builtin .copy, args := #[d, x], argTypes := #[dT, sT] }) (hu : P.underlying dT = some (.slice elem)) (hs : (P.info? elem).map (·.size) = some 1)
    (g off dLen dCap : Nat) (dp : Option Addr) (s : ByteArray) (hd : a.eval d = .slice dp dLen dCap) (hx : a.eval x = .string s) (cur : List Value) (t : TypeId)
    (hg : w.heap[g]? = some (.cells cur.toArray t (0, 0))) (hn : s.size ≤ dLen) (hp : 0 < s.size → dp = some ⟨g, off, none⟩) (hfit : off + s.size ≤ cur.length)
    (h : ∀ w', w'.heap[g]? = some (.cells (cur.take off ++ Lib.strCells s ++ cur.drop (off + s.size)).toArray t (0, 0)) → Only [g] w w' → wpList P ops Q rest (a.put o.dst (goInt s.size)) w') : wpList P ops Q (o :: rest) a w := by
  have hr := run_copy_str (P := P) w dT sT o.type elem g off dLen dCap dp s cur.toArray t hu hs hg hn hp (by simpa using hfit)
  refine wpList_step fun K hK => ?_
  rw [if_pos hgd]
  unfold Oper.wp execOp
  simp only [ho, resolve, invoke, builtin, Sem.run_bind, Sem.run_pure, Result.andThen_ok, List.map_toArray, List.map_cons, List.map_nil, hd, hx, hr]
  exact hK _ _ (h _ (setRow_heap w g _ _ t _ hg) (Only.row w g _ (by simp)))
end Go.Proofs.YtlihkmldclocoaaDoor
