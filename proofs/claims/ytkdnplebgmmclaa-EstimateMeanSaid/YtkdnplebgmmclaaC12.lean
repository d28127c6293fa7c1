/- Iter, KeysW, RelN, RelR, Graph0, OwnAt, Fill, RelP, RelC, RelA -/
import Derived.Shelf.SlIter.Nil
import Derived.Shelf.SortM.Plain
import Derived.Shelf.SortM.SortNone
import Derived.Ground.GgzProg
import Derived.Ground.SlgmProg
import Derived.Maps.AppendAt
import Derived.Great.BuildSlice
import Derived.Lib.AppendZerosOnto
import Derived.Test.YtkdnplebgmmclaaC11
/- slices.Sorted(maps.Keys(m)) at this dump (printed by the kit's lay-iter.mjs). -/
namespace Go.Proofs
open Go.RowKit Go.Maps Go.Sort Go.Shelf

theorem Try.sorts32 (m : Nat) : AnyZ.SortsIn Try.prog Try.sorted32_ren Fence.wide m :=
  ⟨fun blk off cap ss W hH hblk hsz => callsIn_wide.2 (AnyM.slices_Sort_string Try.sort56 blk off cap ss W hH hblk hsz),
   fun p cap W => callsIn_wide.2 (AnyM.slices_Sort_string_none Try.sort56 p cap W)⟩

theorem Try.maps_Keys_33 (mb : Option Nat) (W : World) : CallsIn Fence.wide 5 Try.prog 33 #[.map mb] W fun e w' => e = .returned (.func (.func 57) #[] #[.pointer (some ⟨W.heap.size, 0, none⟩)]) ∧ w' = W.alloc (.cells #[.map mb] 97) :=
  AnyZ.keys_in Try.keys33 Fence.wide 5 trivial rfl mb W

set_option maxHeartbeats 1000000 in
theorem Try.slices_Sorted_keys_32_33 {H : Type} (b nn : Nat) (D0 : DataW H) (R : Value → Option (DataW H × List MemPlace)) (w : World) (hown : w.ownsMap Try.prog 9 R b nn D0) (hmax : Maps.size D0 ≤ maxLen) (hbytes : Maps.size D0 * 16 ≤ 140737488355328) :
    CallsIn Fence.wide 5 Try.prog 32 #[.func (.func 57) #[] #[.pointer (some ⟨w.heap.size, 0, none⟩)]] (w.alloc (.cells #[.map (some b)] 97)) fun e w' => ∃ (v : Value) (ss : List (List UInt8)), e = .returned v ∧ ss.Perm (strKeys D0) ∧
      w'.ownsRow (w.alloc (.cells #[.map (some b)] 97)).heap.size 9 1 v ss.length ((ss.mergeSort (fun x y => decide (x ≤ y))).map encStr) ∧ (v = .slice none 0 0 ↔ ss = []) ∧ Below (w.alloc (.cells #[.map (some b)] 97)).heap.size (w.alloc (.cells #[.map (some b)] 97)) w' := by
  have hbl := hown.lt
  have hseq : SeqGives Fence.wide 2 Try.prog 57 #[.pointer (some ⟨w.heap.size, 0, none⟩)] encStr (fun ss => ss.Perm (strKeys D0)) (Maps.size D0) (w.alloc (.cells #[.map (some b)] 97)) :=
    AnyZ.keys_gives (ρ := Try.keys33_ren) { Try.keys33 with } Fence.wide _ trivial rfl (by omega) w.heap.size b nn D0 _ (by simp) (by simp) (by
      obtain ⟨es, clock, hb, Ft, hs, hD⟩ := hown
      exact ⟨es, clock, (Below.heap_alloc _ _ b hbl).trans hb, Ft, hs, hD⟩)
  exact AnyZ.sorted_in Try.sorted32 Fence.wide 5 trivial trivial trivial trivial rfl (by omega) (Try.sorts32 _) (enters_of Try.func56 (by kernel_rfl) rfl) 57 #[.pointer (some ⟨w.heap.size, 0, none⟩)] trivial (enters_of Try.func57 (by kernel_rfl) rfl) _ _ hmax hbytes _ hseq

set_option maxHeartbeats 1000000 in
theorem Try.slices_Sorted_keys_nil_32_33 (w : World) :
    CallsIn Fence.wide 5 Try.prog 32 #[.func (.func 57) #[] #[.pointer (some ⟨w.heap.size, 0, none⟩)]] (w.alloc (.cells #[.map none] 97)) fun e w' => ∃ (v : Value) (ss : List (List UInt8)), e = .returned v ∧ ss = [] ∧
      w'.ownsRow (w.alloc (.cells #[.map none] 97)).heap.size 9 1 v ss.length ((ss.mergeSort (fun x y => decide (x ≤ y))).map encStr) ∧ (v = .slice none 0 0 ↔ ss = []) ∧ Below (w.alloc (.cells #[.map none] 97)).heap.size (w.alloc (.cells #[.map none] 97)) w' := by
  have hseq : SeqGives Fence.wide 2 Try.prog 57 #[.pointer (some ⟨w.heap.size, 0, none⟩)] encStr (fun ss : List (List UInt8) => ss = []) 0 (w.alloc (.cells #[.map none] 97)) :=
    AnyZ.keys_gives_nil (ρ := Try.keys33_ren) { Try.keys33 with } Fence.wide _ trivial rfl w.heap.size _ (by simp) (by simp)
  exact AnyZ.sorted_in Try.sorted32 Fence.wide 5 trivial trivial trivial trivial rfl (by omega) (Try.sorts32 _) (enters_of Try.func56 (by kernel_rfl) rfl) 57 #[.pointer (some ⟨w.heap.size, 0, none⟩)] trivial (enters_of Try.func57 (by kernel_rfl) rfl) _ 0 (Nat.zero_le _) (by omega) _ hseq

theorem Try.maps_Keys_75 (mb : Option Nat) (W : World) : CallsIn Fence.wide 5 Try.prog 75 #[.map mb] W fun e w' => e = .returned (.func (.func 99) #[] #[.pointer (some ⟨W.heap.size, 0, none⟩)]) ∧ w' = W.alloc (.cells #[.map mb] 132) :=
  AnyZ.keys_in Try.keys75 Fence.wide 5 trivial rfl mb W

set_option maxHeartbeats 1000000 in
theorem Try.slices_Sorted_keys_32_75 {H : Type} (b nn : Nat) (D0 : DataW H) (R : Value → Option (DataW H × List MemPlace)) (w : World) (hown : w.ownsMap Try.prog 9 R b nn D0) (hmax : Maps.size D0 ≤ maxLen) (hbytes : Maps.size D0 * 16 ≤ 140737488355328) :
    CallsIn Fence.wide 5 Try.prog 32 #[.func (.func 99) #[] #[.pointer (some ⟨w.heap.size, 0, none⟩)]] (w.alloc (.cells #[.map (some b)] 132)) fun e w' => ∃ (v : Value) (ss : List (List UInt8)), e = .returned v ∧ ss.Perm (strKeys D0) ∧
      w'.ownsRow (w.alloc (.cells #[.map (some b)] 132)).heap.size 9 1 v ss.length ((ss.mergeSort (fun x y => decide (x ≤ y))).map encStr) ∧ (v = .slice none 0 0 ↔ ss = []) ∧ Below (w.alloc (.cells #[.map (some b)] 132)).heap.size (w.alloc (.cells #[.map (some b)] 132)) w' := by
  have hbl := hown.lt
  have hseq : SeqGives Fence.wide 2 Try.prog 99 #[.pointer (some ⟨w.heap.size, 0, none⟩)] encStr (fun ss => ss.Perm (strKeys D0)) (Maps.size D0) (w.alloc (.cells #[.map (some b)] 132)) :=
    AnyZ.keys_gives (ρ := Try.keys75_ren) { Try.keys75 with } Fence.wide _ trivial rfl (by omega) w.heap.size b nn D0 _ (by simp) (by simp) (by
      obtain ⟨es, clock, hb, Ft, hs, hD⟩ := hown
      exact ⟨es, clock, (Below.heap_alloc _ _ b hbl).trans hb, Ft, hs, hD⟩)
  exact AnyZ.sorted_in Try.sorted32 Fence.wide 5 trivial trivial trivial trivial rfl (by omega) (Try.sorts32 _) (enters_of Try.func56 (by kernel_rfl) rfl) 99 #[.pointer (some ⟨w.heap.size, 0, none⟩)] trivial (enters_of Try.func99 (by kernel_rfl) rfl) _ _ hmax hbytes _ hseq

set_option maxHeartbeats 1000000 in
theorem Try.slices_Sorted_keys_nil_32_75 (w : World) :
    CallsIn Fence.wide 5 Try.prog 32 #[.func (.func 99) #[] #[.pointer (some ⟨w.heap.size, 0, none⟩)]] (w.alloc (.cells #[.map none] 132)) fun e w' => ∃ (v : Value) (ss : List (List UInt8)), e = .returned v ∧ ss = [] ∧
      w'.ownsRow (w.alloc (.cells #[.map none] 132)).heap.size 9 1 v ss.length ((ss.mergeSort (fun x y => decide (x ≤ y))).map encStr) ∧ (v = .slice none 0 0 ↔ ss = []) ∧ Below (w.alloc (.cells #[.map none] 132)).heap.size (w.alloc (.cells #[.map none] 132)) w' := by
  have hseq : SeqGives Fence.wide 2 Try.prog 99 #[.pointer (some ⟨w.heap.size, 0, none⟩)] encStr (fun ss : List (List UInt8) => ss = []) 0 (w.alloc (.cells #[.map none] 132)) :=
    AnyZ.keys_gives_nil (ρ := Try.keys75_ren) { Try.keys75 with } Fence.wide _ trivial rfl w.heap.size _ (by simp) (by simp)
  exact AnyZ.sorted_in Try.sorted32 Fence.wide 5 trivial trivial trivial trivial rfl (by omega) (Try.sorts32 _) (enters_of Try.func56 (by kernel_rfl) rfl) 99 #[.pointer (some ⟨w.heap.size, 0, none⟩)] trivial (enters_of Try.func99 (by kernel_rfl) rfl) _ 0 (Nat.zero_le _) (by omega) _ hseq

end Go.Proofs
/- slices.Sorted(maps.Keys(m)): the map's names in order. -/
namespace Go.Proofs.Ytkdnplebgmmclaa
open Go.RowKit Go.Maps Go.WideShapes
open Go.WideElems (Fit rd rg pl rd_val rg_of elemAt)
set_option linter.unusedSimpArgs false
set_option linter.unusedVariables false

/-- A list of names. -/
def RNm (_ : World) (cs : List Value) (x : ByteArray) : Prop := cs = [.string x]
theorem RNm.stays : Stays RNm := fun _ _ _ _ _ h => h
theorem keyOf_str {s : ByteArray} (hs : s.size ≤ maxLen) : keyOf Try.prog 9 (strV s) = some (.string s.data.toList) := by simp [keyOf, Try.underlying9, strV, mapKey, hs]
theorem names_of_row {B : Nat} {e : TypeId} {w : World} {v : Value} {xs : List (List UInt8)} {n : Nat} (hn : n = xs.length) (h : w.ownsRow B e 1 v n (xs.map encStr)) : OwnL 1 B e RNm w v (xs.map bytesOf') := by
  subst hn
  refine ⟨xs.map fun l => [encStr l], by simp, fun i cs x hi hx => ?_, ?_⟩
  · rw [List.getElem?_map] at hi hx
    cases hq : xs[i]? with
    | none => rw [hq] at hi; cases hi
    | some l =>
      rw [hq] at hi hx
      simp only [Option.map_some, Option.some.injEq] at hi hx
      subst hi; subst hx
      exact ⟨rfl, rfl⟩
  · have e1 : ∀ ys : List (List UInt8), (ys.map fun l => [encStr l]).flatten = ys.map encStr := fun ys => by
      induction ys with
      | nil => rfl
      | cons a r ih => rw [List.map_cons, List.flatten_cons, ih]; rfl
    rw [e1, List.length_map]; exact h
theorem sorted_names {w : World} {mb : Nat} {l : List (ByteArray × Value)} (h : MapE strV w mb l) (hk : ∀ q ∈ l, q.1.size ≤ maxLen) (hb : l.length ≤ 8796093022207) :
    Calls Try.prog 32 #[.func (.func 57) #[] #[.pointer (some ⟨w.heap.size, 0, none⟩)]] (w.alloc (.cells #[.map (some mb)] 97))
      fun e w' => ∃ v, e = .returned v ∧ OwnL 1 (w.heap.size + 1) 9 RNm w' v (sortU cmpS (l.map (·.1))) ∧ Fut (w.alloc (.cells #[.map (some mb)] 97)) w' := by
  have hnd := h.nodup
  obtain ⟨es, clock, hbk, hst, hes⟩ := h
  have hlen : es.size = l.length := by
    have := congrArg List.length hes
    simpa using this
  have hkey : ∀ x ∈ es.toList, ∃ q ∈ l, x.key = strV q.1 := fun x hx => by
    have hm : (x.key, x.val) ∈ es.toList.map (fun e => (e.key, e.val)) := List.mem_map.2 ⟨x, hx, rfl⟩
    rw [hes] at hm
    obtain ⟨q, hq, e⟩ := List.mem_map.1 hm
    injection e with e1 _
    exact ⟨q, hq, e1.symm⟩
  have hrd : ∀ x ∈ es.toList, ∀ q ∈ l, x.key = strV q.1 → rd Try.prog 9 (fun _ => some ((DataW.nil : DataW Unit), [])) x = some (.string q.1.data.toList, .nil) := fun x _ q hq e => by
    unfold rd
    rw [e, keyOf_str (hk q hq)]; rfl
  have F : Fit Try.prog 9 (fun _ => some ((DataW.nil : DataW Unit), [])) es clock := ⟨by unfold maxLen; omega, hst, fun x hx => by
    obtain ⟨q, hq, e⟩ := hkey x hx
    exact ⟨_, hrd x hx q hq e⟩⟩
  have hown := World.ownsMap_of_fit (R := fun _ => some ((DataW.nil : DataW Unit), [])) hbk F (fun _ _ _ h => h)
  have hsz : Maps.size (DataW.map ((es.toList.map (rg Try.prog 9 (fun _ => some ((DataW.nil : DataW Unit), [])))).foldr DataW.insert [])) = es.size := by simp [Maps.size, length_read]
  have hperm : (strKeys (DataW.map ((es.toList.map (rg Try.prog 9 (fun _ => some ((DataW.nil : DataW Unit), [])))).foldr DataW.insert []))).Perm ((l.map (·.1)).map (·.data.toList)) := by
    show (((es.toList.map (rg Try.prog 9 (fun _ => some ((DataW.nil : DataW Unit), [])))).foldr DataW.insert []).map fun p => strOf p.1).Perm _
    refine ((sorted_perm _).map _).trans ?_
    rw [List.map_map, List.map_map]
    have e2 : ∀ (xs : List MapEntry) (ql : List (ByteArray × Value)), (∀ x ∈ xs, x ∈ es.toList) → (∀ q ∈ ql, q ∈ l) → xs.map (fun e => (e.key, e.val)) = ql.map (fun p => (strV p.1, p.2)) →
        xs.map ((fun p => strOf p.1) ∘ rg Try.prog 9 (fun _ => some ((DataW.nil : DataW Unit), []))) = ql.map ((fun x => x.data.toList) ∘ fun x => x.1) := by
      intro xs
      induction xs with
      | nil => intro ql _ _ e; cases ql with
        | nil => rfl
        | cons a r => simp at e
      | cons x xs ih => intro ql h1 h2 e; cases ql with
        | nil => simp at e
        | cons q ql =>
          simp only [List.map_cons, List.cons.injEq, Prod.mk.injEq] at e
          rw [List.map_cons, List.map_cons, ih ql (fun y hy => h1 y (List.mem_cons_of_mem _ hy)) (fun y hy => h2 y (List.mem_cons_of_mem _ hy)) e.2]
          have h9 := rg_of (hrd x (h1 x List.mem_cons_self) q (h2 q List.mem_cons_self) e.1.1)
          simp only [Function.comp, h9, strOf]
    rw [e2 es.toList l (fun x hx => hx) (fun q hq => hq) hes]
  refine (callsIn_wide.1 (Try.slices_Sorted_keys_32_33 mb _ _ _ w hown (by rw [hsz]; unfold maxLen; omega) (by rw [hsz]; omega))).mono ?_
  rintro e w' ⟨v, ss, rfl, hS, hrow, _, hbw⟩
  have hm := merge_names (hS.trans hperm) hnd
  have ho := names_of_row (by rw [List.length_mergeSort]) hrow
  rw [hm] at ho
  have hs1 : (w.alloc (.cells #[.map (some mb)] 97)).heap.size = w.heap.size + 1 := by simp
  rw [hs1] at ho
  exact ⟨v, rfl, ho, hbw⟩
theorem nm_at {w : World} {A : Option Addr} {n cap M : Nat} {xs : List ByteArray} (h : SlRep 1 M RNm w (.slice A n cap) xs) {k : Nat} (hk : k < xs.length) :
    ∃ b off, A = some ⟨b, off, none⟩ ∧ w.cell? ⟨b, off + k, none⟩ = some (.string xs[k]) := by
  obtain ⟨A1, cap1, hv, _, _, h3⟩ := h
  obtain ⟨b, off, cs, hA, hl, hc, hr⟩ := h3 k _ (List.getElem?_eq_getElem hk)
  injection hv with hv _ _
  obtain rfl : cs = _ := hr
  refine ⟨b, off, hv.trans hA, ?_⟩
  have := hc 0 _ rfl
  rwa [Nat.mul_one, Nat.add_zero] at this
end Go.Proofs.Ytkdnplebgmmclaa
/- relation.New, At, Has. -/
namespace Go.Proofs.Ytkdnplebgmmclaa
open Go.RowKit Go.WideMaps
set_option linter.unusedSimpArgs false
set_option linter.unusedVariables false

theorem zeros_eq : #[Value.int .i32 0, Value.int .i32 0, Value.int .i32 0, Value.int .i32 0, Value.int .i32 0, Value.int .i32 0, Value.int .i32 0, Value.int .i32 0, Value.int .i32 0, Value.int .i32 0, Value.int .i32 0, Value.int .i32 0, Value.int .i32 0, Value.int .i32 0, Value.int .i32 0, Value.int .i32 0, Value.int .i32 0, Value.int .i32 0, Value.int .i32 0, Value.int .i32 0, Value.int .i32 0, Value.int .i32 0, Value.int .i32 0, Value.int .i32 0] = (Rw.cells zeroRow).toArray := rfl
theorem results_row {P : Program} {k e : TypeId} {fn : Func} {p q : Tmp} {tmps : Array Value} {w : World} {g : Nat} {x : Rw} {v : Value} (h : fn.results = #[.cell p k, .tmp q]) (T : RowTy P k e)
    (hp : tmps.getD p undef = .pointer (some ⟨g, 0, none⟩)) (hr : RowAt w g 0 x) (hv : tmps.getD q undef = v) : (results fn tmps).run P w = .ok (.tuple #[Rw.val x, v]) w := by
  have hp' : tmps[p]?.getD undef = .pointer (some ⟨g, 0, none⟩) := by simpa using hp
  have hv' : tmps[q]?.getD undef = v := by simpa using hv
  simp [results, h, hp', hv', asAddr, run_loadVar_R T hr]
theorem zeroI (w : World) : (zeroValue 3).run Try.prog w = .ok (.int .i64 0) w := by kernel_rfl
theorem exec_lookup_R {P : Program} {k e t ev : TypeId} {w : World} {o : Oper} {a : Act} {b : Nat} {f : Rw → Option Int} {x : Rw} (T : RowTy P k e) (ht : P.underlying t = some (.map k ev)) (hz : ∀ w, (zeroValue ev).run P w = .ok (.int .i64 0) w) (m y : Operand)
    (ho : o.op = .lookup t m y true) (hm : a.eval m = .map (some b)) (hy : a.eval y = Rw.val x) (h : MapR w b f) (hx : Rw.ok x) :
    (execOp a.eval o).run P w = .ok (.value (.tuple #[.int .i64 ((f x).getD 0), .bool (f x).isSome])) w := by
  unfold execOp
  simp only [ho, hm, hy, Sem.run_bind, h.lookup T.A T.he T.hsz ht hz hx, Sem.run_pure, Result.andThen_ok]
theorem idx_nil : (fun _ => none) = idx [] := by funext x; simp [idx]
end Go.Proofs.Ytkdnplebgmmclaa
/- slices.Min; is it a row of the arity? -/
namespace Go.Proofs.Ytkdnplebgmmclaa
open Go.RowKit Go.WideMaps
set_option linter.unusedSimpArgs false
set_option linter.unusedVariables false

/-- Which rows may be, at an arity. -/
def rightP (ar : Nat) (x : Rw) : Bool := (x.all fun a => decide (0 ≤ a)) && (x.drop ar).all fun a => decide (a = 0)
def minI (a b : Int) : Int := if b < a then b else a
theorem wf_i32 {a : Int} (h : (Lit.int .i32 a).wf = true) : -2147483648 ≤ a ∧ a ≤ 2147483647 := by simpa [Lit.wf, IntKind.min, IntKind.max, IntKind.signed, IntKind.bits] using h

def clr (n : Nat) (x : Rw) : Rw := List.replicate n 0 ++ x.drop n
theorem clr_ok {n : Nat} {x : Rw} (hx : Rw.ok x) (hn : n ≤ 24) : Rw.ok (clr n x) := ⟨by simp [clr, hx.1]; omega, fun a ha => by
  rcases List.mem_append.1 ha with ha | ha
  · rw [List.eq_of_mem_replicate ha]; decide
  · exact hx.2 a (List.mem_of_mem_drop ha)⟩
theorem clr_zero {n : Nat} {x : Rw} (hx : Rw.ok x) (hn : n ≤ 24) : clr n x = zeroRow ↔ ((x.drop n).all fun a => decide (a = 0)) = true := by
  have hz : zeroRow = List.replicate n 0 ++ List.replicate (24 - n) (0 : Int) := by
    rw [List.replicate_append_replicate, show n + (24 - n) = 24 by omega]; rfl
  rw [hz]
  unfold clr
  rw [List.append_cancel_left_eq, List.eq_replicate_iff, List.all_eq_true]
  simp [hx.1]
theorem putObj_same {w : World} {g : Nat} {o : Obj} (h : w.heap[g]? = some o) : w.putObj g o = w := by
  unfold World.putObj
  have : w.heap.setIfInBounds g o = w.heap := by
    have hl := (Array.getElem?_eq_some_iff.1 h).1
    refine Array.ext_getElem? fun i => ?_
    by_cases hi : i = g
    · subst hi; rw [h]; simp [hl]
    · rw [Array.getElem?_setIfInBounds_ne (Ne.symm hi)]
  rw [this]
theorem zeroCells_i32 (n : Nat) : (Builtin.zeroCells (#[Value.int .i32 0]) n).toList = List.replicate n (.int .i32 0) := by
  unfold Builtin.zeroCells
  simp only [List.size_toArray, List.length_cons, List.length_nil, Nat.zero_add, Nat.mul_one, Nat.mod_one, Array.toList_map, Array.toList_range]
  rw [List.eq_replicate_iff]
  simp
theorem exec_clear_R {P : Program} {t k e : TypeId} {w : World} {o : Oper} {a : Act} {g n cap : Nat} {x : Rw} (T : RowTy P k e) (ht : P.underlying t = some (.slice e)) (hz : ∀ w, (zeroValue e).run P w = .ok (.int .i32 0) w) (y : Operand)
    (ho : o.op = .call { callee := .builtin .clear, args := #[y], argTypes := #[t] }) (hy : a.eval y = .slice (some ⟨g, 0, none⟩) n cap) (hb : w.heap[g]? = some (.cells (Rw.cells x).toArray k (0, 0))) (hx : Rw.ok x) (hn : n ≤ 24) :
    (execOp a.eval o).run P w = .ok (.value (.tuple #[])) (w.putObj g (.cells (Rw.cells (clr n x)).toArray k (0, 0))) := by
  have hl := Rw.cells_len hx
  have hrun : (Builtin.clear_ #[t] o.type #[.slice (some ⟨g, 0, none⟩) n cap]).run P w = .ok (.tuple #[]) (w.putObj g (.cells (Rw.cells (clr n x)).toArray k (0, 0))) := by
    cases n with
    | zero =>
      have e1 : clr 0 x = x := by simp [clr]
      rw [e1, putObj_same hb]
      simp [Builtin.clear_, run_underlying ht]
    | succ n =>
      have h1 := run_storeCells_cells (P := P) g 0 (List.replicate (n + 1) (.int .i32 0)) 0 w (fun j hj => by
        rw [List.length_replicate] at hj
        simp [World.cell?, hb]; omega) (fun j hj => by simp [World.frozen?, hb]) (fun v hv => by rw [List.eq_of_mem_replicate hv]; rfl)
      obtain ⟨arr', h2, h3, h4⟩ := setCells_put (List.replicate (n + 1) (.int .i32 0)) 0 w _ hb
      have e1 : arr' = (Rw.cells (clr (n + 1) x)).toArray := by
        refine Array.ext_getElem? fun j => ?_
        rw [h4]
        simp only [Rw.cells, clr, List.map_append, List.map_replicate, List.getElem?_toArray, List.length_replicate, Nat.zero_add, Nat.sub_zero, List.size_toArray, List.length_map, hx.1]
        by_cases hj : j < n + 1
        · rw [if_pos (by omega), List.getElem?_append_left (by simpa using hj)]
        · rw [if_neg (by omega), List.getElem?_append_right (by simpa using hj)]
          simp only [List.length_replicate, List.map_drop, List.getElem?_drop]
          rw [show n + 1 + (j - (n + 1)) = j by omega]
      simp only [Nat.add_zero] at h1
      rw [h2, e1] at h1
      simp [Builtin.clear_, run_underlying ht, hz, Value.cells, zeroCells_i32, h1]
  unfold execOp
  simp only [ho, resolve, invoke, builtin, Sem.run_bind, Sem.run_pure, Result.andThen_ok, List.map_toArray, List.map_cons, List.map_nil, hy, hrun]
theorem right_eq {n : Nat} {x : Rw} {m : Int} (hx : Rw.ok x) (hn : n ≤ 24) (hm : m < 0 ↔ ∃ a ∈ x, a < 0) : rightP n x = (decide (¬ m < 0) && decide (clr n x = zeroRow)) := by
  unfold rightP
  have h1 : (x.all fun a => decide (0 ≤ a)) = decide (¬ m < 0) := by
    rw [Bool.eq_iff_iff, List.all_eq_true, decide_eq_true_eq, hm]
    constructor
    · rintro h ⟨a, ha, h2⟩
      have := of_decide_eq_true (h a ha); omega
    · intro h a ha
      exact decide_eq_true (by
        by_cases h' : a < 0
        · exact absurd ⟨a, ha, h'⟩ h
        · omega)
  have h2 : ((x.drop n).all fun a => decide (a = 0)) = decide (clr n x = zeroRow) := by
    rw [Bool.eq_iff_iff, decide_eq_true_eq]; exact (clr_zero hx hn).symm
  rw [h1, h2]
theorem exec_eql_R {P : Program} {k e : TypeId} {w : World} {o : Oper} {a : Act} {x y : Rw} (T : RowTy P k e) (hg : P.eqGuardType P.depth k = false) (p q : Operand) (kt : TypeId)
    (ho : o.op = .binOp .eql k p q kt) (hp : a.eval p = Rw.val x) (hq : a.eval q = Rw.val y) (hx : Rw.ok x) (hy : Rw.ok y) : (execOp a.eval o).run P w = .ok (.value (.bool (decide (x = y)))) w := by
  have h1 := run_eql_row T.A T.he T.hsz hx hy w
  unfold execOp
  unfold Rw.val at h1 hp hq
  simp only [ho, hp, hq, Sem.run_bind, run_eqGuard_agg w .eql k p q _ _ hg, Result.andThen_ok, h1, Sem.run_pure]
theorem exec_neq_R {P : Program} {k e : TypeId} {w : World} {o : Oper} {a : Act} {x y : Rw} (T : RowTy P k e) (hg : P.eqGuardType P.depth k = false) (p q : Operand) (kt : TypeId)
    (ho : o.op = .binOp .neq k p q kt) (hp : a.eval p = Rw.val x) (hq : a.eval q = Rw.val y) (hx : Rw.ok x) (hy : Rw.ok y) : (execOp a.eval o).run P w = .ok (.value (.bool (!decide (x = y)))) w := by
  have h1 := run_neq_row T.A T.he T.hsz hx hy w
  unfold execOp
  unfold Rw.val at h1 hp hq
  simp only [ho, hp, hq, Sem.run_bind, run_eqGuard_agg w .neq k p q _ _ hg, Result.andThen_ok, h1, Sem.run_pure]
end Go.Proofs.Ytkdnplebgmmclaa
/- A region that draws its order, whose first operation, a plain copy, may come at any time. No program. -/
namespace Go.Proofs.Ytkdnplebgmmclaa
open Go.RowKit
set_option linter.unusedSimpArgs false
set_option linter.unusedVariables false

/-- The tail waits for all of the head but number 0. -/
def sink1B (ops : Array Oper) (n : Nat) : Bool :=
  (List.range n).all fun i => decide (i = 0) || (List.range (n + 1)).any fun j => decide (i < j) && Region.waitsFor .any ops j i
def sinkB0 (ops : Array Oper) (n : Nat) : Bool := decide (n = ops.size) || (sink1B ops n && Region.chainB .any ops n)
def tailB0 (ops : Array Oper) (n : Nat) : Bool := sinkB0 ops n && Region.seqB .any ops (ops.size - n) n (headDone n ops.size)
def takeB (ops : Array Oper) : Bool := match ops[0]? with
  | none => false
  | some o => (match o.guard with | none => true | some _ => false) && (match o.op with | .move (.tmp _) => true | _ => false) && Region.free .any ops (Array.replicate ops.size false) 0 && (Region.ready .any ops (Array.replicate ops.size false)).contains 0

theorem tail_waits0 {ops : Array Oper} {n : Nat} {listed : Array Bool} (hs : sink1B ops n = true) (hc : Region.chainB .any ops n = true) (hn : n < ops.size) (inv : HeadInv .any ops n listed) :
    ∀ (d i : Nat), n - i = d → i < n → i ≠ 0 → listed.getD i true = false → ∀ t, n ≤ t → t ∉ Region.ready .any ops listed := by
  intro d
  induction d using Nat.strongRecOn with
  | _ d ih =>
    intro i hd hi hi0 hun t ht hr
    obtain ⟨_, ot, hot, hall⟩ := mem_ready.1 hr
    have htlt : t < ops.size := (Array.getElem?_eq_some_iff.1 hot).1
    by_cases htn : t = n
    · subst htn
      have h1 := List.all_eq_true.1 hs i (List.mem_range.2 hi)
      simp only [hi0, decide_false, Bool.false_or] at h1
      obtain ⟨j, hj, hj2⟩ := List.any_eq_true.1 h1
      simp only [Bool.and_eq_true, decide_eq_true_eq] at hj2
      obtain ⟨oj, hoj, e, he, hb, hon⟩ := Region.waitsFor_spec hj2.2
      have hjle : j ≤ t := by have := List.mem_range.1 hj; omega
      by_cases hjt : j = t
      · subst hjt
        have : oj = ot := Option.some.inj (hoj.symm.trans hot)
        subst this
        have h2 := hall e he hb
        rw [hon, getD_both hun] at h2
        cases h2
      · cases hl : listed.getD j false with
        | true =>
          have h2 := inv.closed j oj hoj hl e he hb
          rw [hon, getD_both hun] at h2
          cases h2
        | false =>
          have hjs : j < listed.size := by rw [inv.size]; omega
          exact ih (t - j) (by omega) j rfl (by omega) (by omega) (getD_in hjs hl) t (Nat.le_refl _) hr
    · have h1 := List.all_eq_true.1 hc t (List.mem_range.2 htlt)
      simp only [Bool.or_eq_true, decide_eq_true_eq] at h1
      rcases h1 with h1 | h1
      · omega
      · obtain ⟨o', ho', e, he, hb, hon⟩ := Region.waitsFor_spec h1
        have : o' = ot := Option.some.inj (ho'.symm.trans hot)
        subst this
        have h2 := hall e he hb
        rw [hon, getD_both (inv.tail (t - 1) (by omega) (by omega))] at h2
        cases h2

theorem wp_region_graph0 {P : Program} {id : Nat} {Q : Exit → Act → World → Prop} {a0 : Act} {w : World} {l : List Oper} (n : Nat) (hm : P.follows .mixedOrders = true)
    (hB : (graphB l.toArray n && tailB0 l.toArray n) = true) (ht0 : takeB l.toArray = true) (hn0 : 0 < n) (hQ : ∀ c v w, ∀ a : Act, ∀ o, l[0]? = some o → Q (.panic c) (a.put o.dst v) w → Q (.panic c) a w) (hsz : ((List.range n).all fun k => match dstAt l.toArray k with | some d => decide (d < a0.tmps.size) | none => true) = true)
    (h : Obl P l.toArray w.drew a0 (wpList P l.toArray Q (l.drop n)) (l.take n) []) : (Code.region id l.toArray true).wp P Q a0 w := by
  simp only [Bool.and_eq_true, tailB0] at hB
  obtain ⟨hG, hS, hseq⟩ := hB
  obtain ⟨hsel, hns, hg⟩ := graphB_spec hG
  have hnl : n ≤ l.length := by simpa using hns
  have hbd : ∀ k d, dstAt l.toArray k = some d → k < n → d < a0.tmps.size := fun k d hd hk => by
    have := List.all_eq_true.1 hsz k (List.mem_range.2 hk)
    simpa [hd] using this
  obtain ⟨full, hfl, _, hob, hfin⟩ := Obl_split _ _ h
  simp only [List.length_nil, Nat.zero_add] at hfl hob
  have htl : (l.take n).length = n := by simp; omega
  rw [htl] at hfl
  -- the specifications
  obtain ⟨sp, hsp⟩ : ∃ sp : Nat → Sp, ∀ k, sp k = ((full[k]?).map (·.2)).getD (.det undef) := ⟨_, fun _ => rfl⟩
  have hfull : ∀ k, k < n → ∃ o, l[k]? = some o ∧ full[k]? = some (dstAt l.toArray k, sp k) ∧ (sp k).mono ∧
      ∀ w', Fut w.drew w' → lexAct o w' (fun a => givesG P l.toArray o a (sp k) w') 0 (full.take k) a0 := fun k hk => by
    have hlk : l[k]? = some (l[k]'(by omega)) := List.getElem?_eq_getElem (by omega)
    obtain ⟨s, hs, hmono, hlex⟩ := hob k _ (by rw [List.getElem?_take, if_pos hk]; exact hlk)
    have hspk : sp k = s := by rw [hsp, hs]; rfl
    refine ⟨_, hlk, ?_, by rw [hspk]; exact hmono, by rw [hspk]; exact hlex⟩
    rw [hs, hspk]
    simp [dstAt, hlk]
  refine wp_region_any hm ?_
  have main : ∀ (f : Nat) (listed : Array Bool) (a : Act) (w' : World) (vs : Nat → Value), GInv l.toArray n sp a0 w.drew vs listed a w' → listed.getD 0 false = true → unl listed n = f →
      wpAny P .any l.toArray Q (f + (l.length - n)) listed a w' := by
    intro f
    induction f with
    | zero =>
      intro listed a w' vs inv hl0 hf
      rw [Nat.zero_add]
      have hlisted : listed = headDone n l.length := by
        refine Array.ext_getElem? fun t => ?_
        by_cases ht : t < l.length
        · have hts : t < listed.size := by rw [inv.lsize]; simpa using ht
          have h2 : (headDone n l.length)[t]? = some (decide (t < n)) := by simp [headDone, ht]
          rw [h2, Array.getElem?_eq_getElem hts]
          by_cases htn : t < n
          · have := unl_zero n hf t htn
            simp [hts] at this
            simp [htn, this]
          · have := inv.tail t (by omega) (by simpa using ht)
            simp [hts] at this
            simp [htn, this]
        · rw [Array.getElem?_eq_none (by rw [inv.lsize]; simp; omega), Array.getElem?_eq_none (by simp [headDone]; omega)]
      have hlast := lexFin_inst (K := fun a => wpList P l.toArray Q (l.drop n) a w') vs full 0 a0 (hfin w' inv.fut) fun j d S hj => by
        rw [Nat.zero_add]
        have hjn : j < n := by rw [← hfl]; exact (List.getElem?_eq_some_iff.1 hj).1
        obtain ⟨_, _, h1, _, _⟩ := hfull j hjn
        rw [hj] at h1
        simp only [Option.some.injEq, Prod.mk.injEq] at h1
        have := inv.held j hjn (unl_zero n hf j hjn)
        rw [← h1.2] at this
        exact this
      have hact : a = putAll vs 0 full a0 := by
        refine act_ext (fun t => ?_) ?_
        · by_cases hex : ∃ k, k < n ∧ dstAt l.toArray k = some t
          · obtain ⟨k, hk, hkd⟩ := hex
            obtain ⟨_, _, h1, _, _⟩ := hfull k hk
            rw [hkd] at h1
            rw [inv.slot k t hk (unl_zero n hf k hk) hkd, putAll_at vs t full 0 a0 k (sp k) (hbd k t hkd hk) h1, Nat.zero_add]
            · have h2 := inv.held k hk (unl_zero n hf k hk)
              cases hs : sp k with
              | det c => rw [hs] at h2; simp only [Sp.holds] at h2; rw [h2]; rfl
              | rel S => rfl
            · intro j d s' hj hd
              have hjn : j < n := by rw [← hfl]; exact (List.getElem?_eq_some_iff.1 hj).1
              obtain ⟨_, _, h3, _, _⟩ := hfull j hjn
              rw [hj] at h3
              simp only [Option.some.injEq, Prod.mk.injEq] at h3
              have hjd : dstAt l.toArray j = some t := h3.1.symm.trans hd
              rcases Nat.lt_trichotomy j k with h' | h' | h'
              · obtain ⟨ok, hok, _, hd2, _⟩ := hg k hk
                exact absurd hjd (hd2 t (by simpa [dstAt, hok] using hkd) j h')
              · exact h'
              · obtain ⟨oj, hoj, _, hd2, _⟩ := hg j hjn
                exact absurd hkd (hd2 t (by simpa [dstAt, hoj] using hjd) k h')
          · rw [inv.free t fun k hk _ hd => hex ⟨k, hk, hd⟩, putAll_other]
            intro d s hmem hd
            obtain ⟨j, hj⟩ := List.getElem?_of_mem hmem
            have hjn : j < n := by rw [← hfl]; exact (List.getElem?_eq_some_iff.1 hj).1
            obtain ⟨_, _, h3, _, _⟩ := hfull j hjn
            rw [hj] at h3
            simp only [Option.some.injEq, Prod.mk.injEq] at h3
            exact hex ⟨j, hjn, h3.1.symm.trans hd⟩
        · rw [inv.defers]
          have : ∀ (acc : List (Option Tmp × Sp)) (k : Nat) (b : Act), (putAll vs k acc b).defers = b.defers := by
            intro acc
            induction acc with
            | nil => intro k b; rfl
            | cons x r ih =>
              intro k b
              obtain ⟨d, s⟩ := x
              cases s <;> simp only [putAll] <;> rw [ih, put_defers']
          rw [this]
      rw [← hact] at hlast
      have := wpAny_of_seq (md := .any) (P := P) (Q' := Q) (l.drop n) n listed a w' (fun j => by simp [List.getElem?_drop])
        (by rw [hlisted, List.length_drop]; simpa using hseq) hlast
      rwa [List.length_drop] at this
    | succ f ih =>
      intro listed a w' vs inv hl0 hf
      obtain ⟨i0, hi0, hi1, hi2⟩ := unl_some n (by rw [hf]; omega)
      have hils : ∀ i, i < n → i < listed.size := fun i hi => by rw [inv.lsize]; simp; omega
      have hready : i0 ∈ Region.ready .any l.toArray listed := by
        obtain ⟨o, ho, hedge, _⟩ := hg i0 hi0
        exact mem_ready.2 ⟨getD_in (hils i0 hi0) hi1, o, ho, fun e he hb => hi2 _ (hedge e he hb)⟩
      rw [show f + 1 + (l.length - n) = (f + (l.length - n)) + 1 by omega]
      refine ⟨fun h0 => (by rw [h0] at hready; cases hready), fun i hi => ?_⟩
      have hin : i < n := by
        rcases Nat.lt_or_ge i n with h' | h'
        · exact h'
        · exfalso
          have hisz : i < l.toArray.size := by
            obtain ⟨_, o, ho, _⟩ := mem_ready.1 hi
            exact (Array.getElem?_eq_some_iff.1 ho).1
          simp only [sinkB0, Bool.or_eq_true, decide_eq_true_eq, Bool.and_eq_true] at hS
          rcases hS with hS | ⟨hs, hc⟩
          · omega
          · exact tail_waits0 hs hc (by omega) ⟨inv.lsize, inv.closed, inv.tail⟩ _ i0 rfl hi0 (fun e => by rw [e, hl0] at hi1; cases hi1) (getD_in (hils i0 hi0) hi1) i h' hi
      refine inv.step (full := full) (Q := Q) hG hbd (fun k hk => (by obtain ⟨_, _, h1, _, _⟩ := hfull k hk; exact h1)) hfl (fun k hk => (by obtain ⟨_, _, _, h1, _⟩ := hfull k hk; exact h1))
        (fun o ho => (by
          obtain ⟨o', ho', _, _, h1⟩ := hfull i hin
          have : o = o' := Option.some.inj ((by simpa using ho.symm : some o = l[i]?).trans ho')
          subst this
          exact h1)) hi hin fun v a' w'' inv' => ih _ a' w'' _ inv' (by
          by_cases hi0' : i = 0
          · subst hi0'; have := (mem_ready.1 hi).1; rw [getD_both this] at hl0; cases hl0
          · rw [getD_set_ne false hi0']; exact hl0) ?_
      have hun := getD_both (mem_ready.1 hi).1
      have := unl_set hun (hils i hin) n hin
      omega
  obtain ⟨o0, hl0, h1, _, hlex0⟩ := hfull 0 hn0
  have hi0 : l.toArray[0]? = some o0 := by simpa using hl0
  unfold takeB at ht0
  rw [hi0] at ht0
  simp only [Bool.and_eq_true] at ht0
  obtain ⟨⟨⟨hgd, hmv⟩, hfree⟩, hrdy⟩ := ht0
  have hwant : Region.wanted o0 (yielded l.toArray a0.tmps) = true := by
    unfold Region.wanted
    cases hg' : o0.guard with
    | none => rfl
    | some x => rw [hg'] at hgd; cases hgd
  obtain ⟨y, hop⟩ : ∃ y, o0.op = .move (.tmp y) := by
    split at hmv
    · rename_i y hop; exact ⟨y, hop⟩
    · cases hmv
  have hexec : ∀ w', (execOp a0.eval o0).run P w' = .ok (.value (a0.eval (.tmp y))) w' := fun w' => by
    unfold execOp
    simp only [hop, Sem.run_pure]
  have hS0 : ∀ w', Fut w.drew w' → (sp 0).holds (a0.eval (.tmp y)) w' := fun w' hw' => by
    have h2 := hlex0 w' hw'
    simp only [List.take_zero, lexAct, givesG] at h2
    rw [if_pos hwant] at h2
    unfold gives at h2
    rw [hexec w'] at h2
    exact h2.2
  have hsz0 : l.toArray.size = (l.toArray.size - 1) + 1 := by
    have := (Array.getElem?_eq_some_iff.1 hi0).1
    omega
  have hd0 : dstAt l.toArray 0 = o0.dst := by unfold dstAt; rw [hi0]; rfl
  rw [hsz0]
  refine wpAny_take hi0 hsel (by rw [← hsz0]; exact hfree) (by rw [← hsz0]; exact hrdy) (fun c a w => hQ c _ w a o0 hl0) (.inl ⟨hwant, hexec⟩) ?_
  have hLs : 0 < (Array.replicate (l.toArray.size - 1 + 1) false).size := by simp
  have hcl : ∀ j, ((Array.replicate (l.toArray.size - 1 + 1) false).setIfInBounds 0 true).getD j false = true → j = 0 := fun j hj => by
    by_cases hj0 : j = 0
    · exact hj0
    · rw [getD_set_ne false (Ne.symm hj0), getD_replicate_false] at hj; cases hj
  have inv0 : GInv l.toArray n sp a0 w.drew (fun _ => a0.eval (.tmp y)) ((Array.replicate (l.toArray.size - 1 + 1) false).setIfInBounds 0 true) (a0.put o0.dst (a0.eval (.tmp y))) w.drew := by
    refine ⟨by rw [put_size], by rw [put_defers'], Fut.refl _, fun t ht => ?_, fun k hk hl => ?_, fun k d hk hl hd => ?_, by rw [Array.size_setIfInBounds, Array.size_replicate]; exact hsz0.symm, fun j oj hj hl e he hb => ?_, fun t ht ht' => ?_⟩
    · rw [put_other _ _ _ _ (by rw [← hd0]; exact ht 0 hn0 (by simp))]
    · rw [hcl k hl]; exact hS0 _ (Fut.refl _)
    · have hk0 := hcl k hl
      subst hk0
      rw [hd0] at hd
      rw [hd]
      exact put_same _ _ _ (hbd 0 d (hd0.trans hd) hn0)
    · have hj0 := hcl j hl
      subst hj0
      obtain ⟨o', ho', hedge, _⟩ := hg 0 hn0
      have : oj = o' := Option.some.inj (hj.symm.trans ho')
      subst this
      exact absurd (hedge e he hb) (by omega)
    · rw [getD_set_ne true (by omega)]
      exact getD_in (by rw [Array.size_replicate, ← hsz0]; exact ht') (getD_replicate_false _ _)
  have hun : unl ((Array.replicate (l.toArray.size - 1 + 1) false).setIfInBounds 0 true) n + 1 = n := by
    rw [unl_set (getD_replicate_false _ _) (by simp) n hn0, unl_none]
  have := main (n - 1) _ _ _ _ inv0 (by simp) (by omega)
  rwa [show n - 1 + (l.length - n) = l.toArray.size - 1 by simp; omega] at this

theorem wp_graph0 {P : Program} {id : Nat} {Q : Exit → Act → World → Prop} {a0 : Act} {w : World} {l : List Oper} (n : Nat) (shape : List Sh) (hm : P.follows .mixedOrders = true)
    (hB : (graphB l.toArray n && tailB0 l.toArray n) = true) (ht0 : takeB l.toArray = true) (hn0 : 0 < n) (hQ : ∀ c v w, ∀ a : Act, ∀ o, l[0]? = some o → Q (.panic c) (a.put o.dst v) w → Q (.panic c) a w) (hsz : ((List.range n).all fun k => match dstAt l.toArray k with | some d => decide (d < a0.tmps.size) | none => true) = true)
    (h : Exs (fun sps => Run P l.toArray w.drew (wpList P l.toArray Q (l.drop n)) 0 (l.take n) sps a0 []) shape) : (Code.region id l.toArray true).wp P Q a0 w := by
  obtain ⟨sps, hs⟩ := Exs_some shape h
  exact wp_region_graph0 n hm hB ht0 hn0 hQ hsz (Obl_of_run _ sps [] fun _ => hs)
end Go.Proofs.Ytkdnplebgmmclaa
/- append, with where the new list lies: several lists of the call's own side by side. Generic; no program. -/
namespace Go.Proofs.Ytkdnplebgmmclaa
open Go.RowKit
set_option linter.unusedSimpArgs false
set_option linter.unusedVariables false

section
variable {α : Type} {sz B M : Nat} {e : TypeId} {R : World → List Value → α → Prop} {w w' : World} {v u : Value} {xs ys : List α}
/-- APPEND: the list grows by what the second one holds. -/
theorem run_append_list_at {P : Program} (t ty : TypeId) (i : TypeInfo) (z : Value) (bytes : Nat) (ht : P.underlying t = some (.slice e)) (hi : P.info? e = some i) (hz : i.zero = some z) (hsize : i.size = sz) (hby : i.bytes = bytes) (hzs : z.cells.size = sz) (hsz : 0 < sz)
    (hR1 : ∀ w cs x, R w cs x → ∀ u ∈ cs, u.oneCell' = true) (hRk : ∀ w' cs (x : α), R w cs x → w.grownBy w' v.ownBlock → R w' cs x)
    (h : OwnL sz B e R w v xs) (hu : SlRep sz M R w u ys) (h63 : xs.length + ys.length ≤ maxLen) (hbytes : (xs.length + ys.length) * bytes ≤ 140737488355328) (hbase : B ≤ w.heap.size) :
    ∃ v' w', (Builtin.append_ #[t, t] ty #[v, u]).run P w = .ok v' w' ∧ OwnL sz B e R w' v' (xs ++ ys) ∧ w.grownBy w' v.ownBlock ∧ (v'.ownBlock = v.ownBlock ∨ v'.ownBlock = some w.heap.size) := by
  have h0 := h
  obtain ⟨css, h1, h2, h3⟩ := h
  obtain ⟨A, cap, rfl, hl, hm, hx⟩ := hu
  have hgrow : ∀ w', w.grownBy w' v.ownBlock → ∀ (i : Nat) (cs : List Value) (x : α), css[i]? = some cs → xs[i]? = some x → cs.length = sz ∧ R w' cs x := fun w' hg i cs x hi hx => ⟨(h2 i cs x hi hx).1, hRk _ _ _ (h2 i cs x hi hx).2 hg⟩
  cases A with
  | none =>
    have hy : ys = [] := by
      cases ys with
      | nil => rfl
      | cons y r => obtain ⟨_, _, _, hA, _⟩ := hx 0 y rfl; cases hA
    subst hy
    obtain ⟨A', cap', hv, hl', _⟩ := h0.rep.form
    subst hv
    exact ⟨_, w, run_append_none t ty i ht hi A' _ cap' cap hl' w, by rw [List.append_nil]; exact h0, World.grownBy.refl w _, .inl rfl⟩
  | some a =>
    obtain ⟨news, hnl, hnews⟩ := exists_list (p := fun k (cs : List Value) => ∃ y, ys[k]? = some y ∧ cs.length = sz ∧ R w cs y ∧ ∀ j c, cs[j]? = some c → w.cell? (a.add (k * sz + j)) = some c) ys.length fun k hk => by
      obtain ⟨b, off, cs, hA, b1, b2, b3⟩ := hx k _ (List.getElem?_eq_getElem hk)
      injection hA with hA
      subst hA
      refine ⟨cs, _, List.getElem?_eq_getElem hk, b1, b3, fun j c hj => ?_⟩
      rw [← b2 j c hj]
      congr 1
      unfold Addr.add
      by_cases h' : k * sz + j = 0 <;> first | (simp [h']; done) | (simp [h']; omega)
    have hs : ∀ (i : Nat) (cs : List Value), news[i]? = some cs → cs.length = sz := fun i cs hi => by obtain ⟨y, _, b1, _⟩ := hnews i cs hi; exact b1
    have hcells : ∀ j u, news.flatten[j]? = some u → w.cell? (a.add j) = some u := fun j u hj => by
      have hjl : j < news.length * sz := by
        have := (List.getElem?_eq_some_iff.1 hj).1
        rwa [flatten_len hs] at this
      have hk : j / sz < news.length := Nat.div_lt_of_lt_mul (by rw [Nat.mul_comm]; exact hjl)
      obtain ⟨y, _, b1, _, b2⟩ := hnews (j / sz) _ (List.getElem?_eq_getElem hk)
      have hr : j % sz < (news[j / sz]).length := by rw [b1]; exact Nat.mod_lt _ hsz
      have e1 := flatten_at hs (j / sz) (j % sz) _ _ (List.getElem?_eq_getElem hk) (List.getElem?_eq_getElem hr)
      have e2 := b2 (j % sz) _ (List.getElem?_eq_getElem hr)
      rw [show j / sz * sz + j % sz = j by rw [Nat.mul_comm]; exact Nat.div_add_mod j sz] at e1 e2
      rw [hj] at e1
      rw [e2, ← e1]
    have hone : ∀ u ∈ news.flatten, u.oneCell' = true := fun u hu => by
      obtain ⟨cs, hc, hu⟩ := List.mem_flatten.1 hu
      obtain ⟨k, hk⟩ := List.getElem?_of_mem hc
      obtain ⟨y, _, _, b3, _⟩ := hnews k cs hk
      exact hR1 _ _ _ b3 u hu
    obtain ⟨v', w', r1, r2, r3, _, r5⟩ := run_append_own_at (P := P) w B t ty e i z sz bytes ht hi hz hsize hby hzs hsz v xs.length css.flatten h3 a ys.length cap news.flatten (by rw [flatten_len hs, hnl]) hcells hone h63 hbytes hbase
    refine ⟨v', w', r1, ⟨css ++ news, by simp [h1, hnl], fun k cs x hk hx' => ?_, by rw [List.flatten_append, List.length_append]; exact r2⟩, r3, r5⟩
    rcases Nat.lt_or_ge k css.length with h' | h'
    · rw [List.getElem?_append_left h'] at hk
      rw [List.getElem?_append_left (by omega)] at hx'
      exact hgrow w' r3 k cs x hk hx'
    · rw [List.getElem?_append_right h'] at hk
      rw [List.getElem?_append_right (by omega)] at hx'
      obtain ⟨y, e1, b1, b3, _⟩ := hnews _ _ hk
      rw [h1, hx'] at e1
      obtain rfl := Option.some.inj e1
      exact ⟨b1, hRk _ _ _ b3 r3⟩
/-- Lists of the call's own that lie apart. -/
def Apart (v u : Value) : Prop := ∀ k, v.ownBlock = some k → u.ownBlock ≠ some k
theorem Apart.symm (h : Apart v u) : Apart u v := fun k h1 h2 => h k h2 h1
theorem Apart.nil : Apart v (.slice none 0 0) := fun k _ h => by cases h
theorem OwnL.apart {row : Option Nat} (h : OwnL sz B e R w v xs) (hR : ∀ cs x, R w cs x → R w' cs x) (hg : w.grownBy w' row) (hne : ∀ k, row = some k → v.ownBlock ≠ some k) : OwnL sz B e R w' v xs := by
  obtain ⟨css, h1, h2, h3⟩ := h
  refine ⟨css, h1, fun i cs x hi hx => ⟨(h2 i cs x hi hx).1, hR _ _ (h2 i cs x hi hx).2⟩, h3.kept hg ?_⟩
  cases hv : v.ownBlock with
  | none => exact .inl rfl
  | some k => exact .inr fun hr => hne k hr.symm hv
theorem Apart.grow {v' : Value} {n : Nat} (h : Apart v u) (hat : v'.ownBlock = v.ownBlock ∨ v'.ownBlock = some n) (hu : ∀ k, u.ownBlock = some k → k < n) : Apart v' u := fun k h1 h2 => by
  rcases hat with h3 | h3
  · exact h k (h3 ▸ h1) h2
  · rw [h3] at h1
    injection h1 with h1
    have := hu k h2
    omega
theorem wpList_append_at {P : Program} {ops : Array Oper} {rest : List Oper} {o : Oper} {a : Act} {Q : Exit → Act → World → Prop} (hgd : Region.wanted o (yielded ops a.tmps) = true) (s x : Operand) (t : TypeId)
    (ho : o.op = .call { callee := .builtin .append, args := #[s, x], argTypes := #[t, t] }) (ht : P.underlying t = some (.slice e)) (z : Value) (bytes : Nat)
    (hinfo : (P.info? e).map (fun i => (i.zero, i.size, i.bytes)) = some (some z, sz, bytes)) (hzs : z.cells.size = sz) (hsz : 0 < sz)
    (hR1 : ∀ w cs x, R w cs x → ∀ u ∈ cs, u.oneCell' = true) (hRk : Keeps e R)
    (hs : a.eval s = v) (hx : a.eval x = u) (hown : OwnL sz B e R w v xs) (hu : SlRep sz M R w u ys) (h63 : xs.length + ys.length ≤ maxLen) (hbytes : (xs.length + ys.length) * bytes ≤ 140737488355328) (hbase : B ≤ w.heap.size)
    (h : ∀ v' w', OwnL sz B e R w' v' (xs ++ ys) → w.grownBy w' v.ownBlock → (v'.ownBlock = v.ownBlock ∨ v'.ownBlock = some w.heap.size) → wpList P ops Q rest (a.put o.dst v') w') : wpList P ops Q (o :: rest) a w := by
  obtain ⟨i, hi, hz, hs', hb⟩ := info_parts hinfo
  obtain ⟨v', w', hr, h2, h3, h4⟩ := run_append_list_at t o.type i z bytes ht hi hz hs' hb hzs hsz hR1 (fun w' cs x hr hg => hRk w w' _ cs x hr hg hown.typed) hown hu h63 hbytes hbase
  refine wpList_step fun K hK => ?_
  rw [if_pos hgd]
  unfold Oper.wp
  have hrun : (execOp a.eval o).run P w = .ok (.value v') w' := by
    unfold execOp
    simp only [ho, resolve, invoke, builtin, Sem.run_bind, Sem.run_pure, Result.andThen_ok, List.map_toArray, List.map_cons, List.map_nil, hs, hx, hr]
  rw [hrun]
  exact hK _ _ (h v' w' h2 h3 h4)
end
end Go.Proofs.Ytkdnplebgmmclaa
/- A row laid into a slice or a struct that is just built. No program. -/
namespace Go.Proofs.Ytkdnplebgmmclaa
open Go.RowKit Go.WideMaps
set_option linter.unusedSimpArgs false
set_option linter.unusedVariables false

theorem fold_put (o : Nat) : ∀ (l : List Value) (k : Nat) (arr : Array Value), ∃ arr' : Array Value, (l.zipIdx k).foldl (fun cs p => cs.setIfInBounds (o + p.2) p.1) arr = arr' ∧ arr'.size = arr.size ∧
    ∀ j, arr'[j]? = if o + k ≤ j ∧ j < o + k + l.length ∧ j < arr.size then l[j - (o + k)]? else arr[j]?
  | [], k, arr => ⟨arr, rfl, rfl, fun j => by rw [if_neg (by simp; omega)]⟩
  | v :: l, k, arr => by
    obtain ⟨arr', h1, h2, h3⟩ := fold_put o l (k + 1) (arr.setIfInBounds (o + k) v)
    refine ⟨arr', by rw [List.zipIdx_cons, List.foldl_cons]; exact h1, by rw [h2]; simp, fun j => ?_⟩
    rw [h3]
    simp only [Array.size_setIfInBounds, List.length_cons]
    by_cases h4 : j = o + k
    · subst h4
      rw [if_neg (by omega)]
      by_cases h5 : o + k < arr.size
      · rw [if_pos (by omega)]; simp [h5]
      · rw [if_neg (by omega)]; simp [h5]
    · rw [Array.getElem?_setIfInBounds_ne (Ne.symm h4)]
      by_cases h5 : o + (k + 1) ≤ j ∧ j < o + (k + 1) + l.length ∧ j < arr.size
      · rw [if_pos h5, if_pos (by omega), show j - (o + k) = (j - (o + (k + 1))) + 1 by omega, List.getElem?_cons_succ]
      · rw [if_neg h5, if_neg (by omega)]
/-- One part, at offset off, of size sz. -/
theorem fill_one {place : Nat → Option (Nat × Nat)} {i off sz : Nat} {v : Value} {zero : Array Value} (hp : place i = some (off, sz)) (hs : v.cells.size = sz) (hz : off + sz ≤ zero.size) (rest : List (Nat × Value)) :
    ∃ arr' : Array Value, Instr.fill place zero ((i, v) :: rest) = Instr.fill place arr' rest ∧ arr'.size = zero.size ∧ ∀ j, arr'[j]? = if off ≤ j ∧ j < off + sz then v.cells[j - off]? else zero[j]? := by
  obtain ⟨arr', h1, h2, h3⟩ := fold_put off v.cells.toList 0 zero
  refine ⟨arr', ?_, h2, fun j => ?_⟩
  · have h4 : v.cells.zipIdx.foldl (fun cs (c, j) => cs.setIfInBounds (off + j) c) zero = arr' := by
      rw [← h1, ← Array.foldl_toList, Array.toList_zipIdx]
    conv => lhs; unfold Instr.fill
    simp only [hp]
    rw [if_neg (by simp [hs]; omega), h4]
  · rw [h3]
    simp only [Nat.add_zero, Array.length_toList, hs, Array.getElem?_toList]
    by_cases h5 : off ≤ j ∧ j < off + sz
    · rw [if_pos h5, if_pos (by omega)]
    · rw [if_neg h5, if_neg (by omega)]
section
variable {P : Program} {t k e : TypeId} {w : World} {o : Oper} {a : Act} {x : Rw}
/-- A list of one row. -/
theorem exec_one_R (T : RowTy P k e) (hz : ∃ z, (P.info? k).bind (·.zero) = some z ∧ z.cells.size = 24) (ht : P.underlying t = some (.slice k)) (y : Operand) (ho : o.op = .buildSlice t 1 #[(0, y)]) (hy : a.eval y = Rw.val x) (hx : Rw.ok x) :
    (execOp a.eval o).run P w = .ok (.value (.slice (some ⟨w.heap.size, 0, none⟩) 1 1)) (w.alloc (.cells (Rw.cells x).toArray k)) := by
  have hi := T.hi
  cases hq : P.info? k with
  | none => simp [hq] at hi
  | some ie =>
    have hs : ie.size = 24 := by simpa [hq] using hi
    obtain ⟨z, hz1, hz2⟩ := hz
    rw [hq] at hz1
    obtain ⟨arr', h1, h2, h3⟩ := fill_one (place := fun i => some (i * 24, 24)) (i := 0) (off := 0) (sz := 24) (v := Rw.val x) (zero := ((Array.range (1 * 24)).map (z.cells[· % z.cells.size]!))) rfl (by simp [Rw.val_cells, Rw.cells_len hx]) (by simp) []
    have e1 : arr' = (Rw.cells x).toArray := by
      refine Array.ext_getElem? fun j => ?_
      rw [h3]
      by_cases hj : j < 24
      · rw [if_pos (by omega)]; simp [Rw.val_cells]
      · rw [if_neg (by omega)]
        have := Rw.cells_len hx
        rw [Array.getElem?_eq_none (by simp; omega), Array.getElem?_eq_none (by simp; omega)]
    have hf : Instr.fill (fun i => some (i * 24, 24)) ((Array.range (1 * 24)).map (z.cells[· % z.cells.size]!)) [(0, Rw.val x)] = some (Rw.cells x).toArray := by rw [h1, e1]; rfl
    have hrun := run_buildSlice (P := P) w t k 1 #[(0, Rw.val x)] (Rw.cells x).toArray ie z ht hq (by simpa using hz1) (by rw [hs]; omega) (by rw [hs]; omega) (by rw [hs]; exact hf)
    unfold execOp
    simp only [ho, List.map_toArray, List.map_cons, List.map_nil, hy, hrun, Sem.run_bind, Sem.run_pure, Result.andThen_ok]
end
end Go.Proofs.Ytkdnplebgmmclaa
/- places.put; Add. -/
namespace Go.Proofs.Ytkdnplebgmmclaa
open Go.RowKit Go.WideMaps
set_option linter.unusedSimpArgs false
set_option linter.unusedVariables false

/-- A list of one row, just built. -/
theorem rowOne (w : World) (t : TypeId) {x : Rw} (hx : Rw.ok x) : SlRep 24 1 RR (w.alloc (.cells (Rw.cells x).toArray t)) (.slice (some ⟨w.heap.size, 0, none⟩) 1 1) [x] :=
  ⟨_, _, rfl, Nat.le_refl _, Nat.le_refl _, fun i y hy => by
    have hi : i = 0 := by
      have := (List.getElem?_eq_some_iff.1 hy).1
      simp at this; omega
    subst hi
    simp at hy
    subst hy
    refine ⟨_, 0, Rw.cells x, rfl, Rw.cells_len hx, fun j c hj => ?_, rfl, hx⟩
    have := (RowAt.new w t hx).2 j c hj
    rwa [Nat.zero_mul, show 0 + (0 + j) = 0 + j by omega]⟩
/-- APPEND of rows. -/
theorem run_append_R {P : Program} {t ty e : TypeId} {B : Nat} {w : World} {v u : Value} {xs ys : List Rw} {M : Nat} (ht : P.underlying t = some (.slice e))
    (hinfo : (P.info? e).map (fun i => (i.zero, i.size, i.bytes)) = some (some (Rw.val zeroRow), 24, 96))
    (h : OwnL 24 B e RR w v xs) (hu : SlRep 24 M RR w u ys) (hlen : xs.length + ys.length ≤ 1407374883512) (hbase : B ≤ w.heap.size) :
    ∃ v' w', (Builtin.append_ #[t, t] ty #[v, u]).run P w = .ok v' w' ∧ OwnL 24 B e RR w' v' (xs ++ ys) ∧ w.grownBy w' v.ownBlock ∧ (v'.ownBlock = v.ownBlock ∨ v'.ownBlock = some w.heap.size) := by
  obtain ⟨i, hi, hz, hs, hb⟩ := info_parts hinfo
  exact run_append_list_at t ty i _ 96 ht hi hz hs hb rfl (by omega) RR.one (fun _ _ _ h _ => h) h hu (by unfold maxLen; omega) (by omega) hbase
theorem wpList_append_R {P : Program} {ops : Array Oper} {rest : List Oper} {o : Oper} {a : Act} {Q : Exit → Act → World → Prop} {t e : TypeId} {B : Nat} {w : World} {v u : Value} {xs ys : List Rw} {M : Nat} (hgd : Region.wanted o (yielded ops a.tmps) = true) (s x : Operand)
    (ho : o.op = .call { callee := .builtin .append, args := #[s, x], argTypes := #[t, t] }) (ht : P.underlying t = some (.slice e))
    (hinfo : (P.info? e).map (fun i => (i.zero, i.size, i.bytes)) = some (some (Rw.val zeroRow), 24, 96))
    (hs : a.eval s = v) (hx : a.eval x = u) (hown : OwnL 24 B e RR w v xs) (hu : SlRep 24 M RR w u ys) (hlen : xs.length + ys.length ≤ 1407374883512) (hbase : B ≤ w.heap.size)
    (h : ∀ v' w', OwnL 24 B e RR w' v' (xs ++ ys) → w.grownBy w' v.ownBlock → (v'.ownBlock = v.ownBlock ∨ v'.ownBlock = some w.heap.size) → wpList P ops Q rest (a.put o.dst v') w') : wpList P ops Q (o :: rest) a w := by
  obtain ⟨v', w', hr, h2, h3, h4⟩ := run_append_R (ty := o.type) ht hinfo hown hu hlen hbase
  refine wpList_of_run hgd (v := v') (w' := w') ?_ (h v' w' h2 h3 h4)
  unfold execOp
  simp only [ho, resolve, invoke, builtin, Sem.run_bind, Sem.run_pure, Result.andThen_ok, List.map_toArray, List.map_cons, List.map_nil, hs, hx, hr]
theorem wpList_push_R {P : Program} {k e t ev : TypeId} {ops : Array Oper} {rest : List Oper} {o : Oper} {a : Act} {Q : Exit → Act → World → Prop} {w : World} {b : Nat} {f : Rw → Option Int} {x : Rw} {v : Int} (T : RowTy P k e) (hgd : Region.wanted o (yielded ops a.tmps) = true) (ht : P.underlying t = some (.map k ev)) (m y z : Operand)
    (ho : o.op = .mapUpdate t m y z) (hm : a.eval m = .map (some b)) (hy : a.eval y = Rw.val x) (hz : a.eval z = .int .i64 v) (h : MapR w b f) (hx : Rw.ok x) (hn : f x = none)
    (hk : ∀ w', MapR w' b (fun y => if y = x then some v else f y) → w.grownBy w' (some b) → wpList P ops Q rest (a.put o.dst undef) w') : wpList P ops Q (o :: rest) a w := by
  obtain ⟨w', hr, h2, h3⟩ := h.push T.A T.he T.hsz ht hx hn v
  refine wpList_of_skip hgd (w' := w') ?_ (hk w' h2 h3)
  unfold execOp
  simp only [ho, hm, hy, hz, hr, Sem.run_bind, Sem.run_pure, Result.andThen_ok]

theorem OwnL.onlyR {B : Nat} {e : TypeId} {w w' : World} {v : Value} {xs : List Rw} {S : Nat → Prop} (h : OwnL 24 B e RR w v xs) (hg : Only S w w') (hne : ∀ k, v.ownBlock = some k → ¬ S k) : OwnL 24 B e RR w' v xs :=
  h.only (fun _ _ h => h) hg hne
theorem set_blk {w : World} {g i : Nat} {cs : Array Value} {t : TypeId} {fr : Nat × Nat} {v : Value} (h : w.heap[g]? = some (.cells cs t fr)) : (w.setCell ⟨g, i, none⟩ v).heap[g]? = some (.cells (cs.setIfInBounds i v) t fr) := by
  simp [World.setCell, Array.getElem?_modify, h]
end Go.Proofs.Ytkdnplebgmmclaa
/- slices.Grow of nothing, slices.Concat, of rows. -/
namespace Go.Proofs.Ytkdnplebgmmclaa
open Go.RowKit Go.WideMaps
set_option linter.unusedSimpArgs false
set_option linter.unusedVariables false

theorem wpList_growz {P : Program} {ops : Array Oper} {rest : List Oper} {o : Oper} {a : Act} {Q : Exit → Act → World → Prop} {t tn e : TypeId} {w : World} {k : Nat} {z : Value} {kn : IntKind} (hgd : Region.wanted o (yielded ops a.tmps) = true) (s y : Operand)
    (ho : o.op = .call { callee := .builtin .append, args := #[s, y], argTypes := #[t, tn] }) (ht : P.underlying t = some (.slice e)) (htn : P.underlying tn = some (.int kn))
    (hinfo : (P.info? e).map (fun i => (i.zero, i.size, i.bytes)) = some (some z, 24, 96)) (hz : z.cells.size = 24)
    (hs : a.eval s = .slice none 0 0) (hy : a.eval y = .int .i64 k) (h0 : 0 < k) (hk : k ≤ 1407374883512)
    (h : ∀ cap cur, k ≤ cap → cap ≤ maxLen → cur.size = cap * 24 → wpList P ops Q rest (a.put o.dst (.slice (some ⟨w.heap.size, 0, none⟩) k cap)) (w.drew.alloc (.cells cur e))) : wpList P ops Q (o :: rest) a w := by
  obtain ⟨i, hi, hz', hs', hb⟩ := info_parts hinfo
  have hnext : Builtin.nextslicecap (0 + k) 0 = k := by
    unfold Builtin.nextslicecap
    rw [if_pos (by omega)]; omega
  have hr := Lib.run_append_grow_zeros (P := P) w t tn o.type e i z .i64 kn ht htn hi hz' none 0 0 [] (by simp [run_firstCells_none]) k h0 (by omega) (by omega) (by omega) (by rw [hb]; omega) (by rw [hnext, hb]; omega)
  rw [Nat.zero_add] at hr
  have hg1 := grownCap_ge w k 0 e
  have hg2 := grownCap_le_maxLen w k 0 e (by unfold maxLen; omega)
  have hsz : (([] : List Value).toArray ++ Builtin.zeroCells z.cells k ++ Builtin.zeroCells z.cells (grownCap w k 0 e - k)).size = grownCap w k 0 e * 24 := by
    simp [Builtin.zeroCells, hz]
    rw [← Nat.add_mul]
    congr 1
    omega
  obtain ⟨cur, hcur⟩ : ∃ cur, ([] : List Value).toArray ++ Builtin.zeroCells z.cells k ++ Builtin.zeroCells z.cells (grownCap w k 0 e - k) = cur := ⟨_, rfl⟩
  rw [hcur] at hr hsz
  refine wpList_of_run hgd ?_ (h _ cur hg1 hg2 hsz)
  unfold execOp
  simp only [ho, resolve, invoke, builtin, Sem.run_bind, Sem.run_pure, Result.andThen_ok, List.map_toArray, List.map_cons, List.map_nil, hs, hy, hr]
/-- Rows of any make. -/
abbrev Rws : World → Value → List Rw → Prop := SlRep 24 9223372036854775807 RR
def RRs (w : World) (cs : List Value) (xs : List Rw) : Prop := ∃ u, cs = [u] ∧ Rws w u xs
theorem RRs.stays : Stays RRs := fun _ _ _ _ hf ⟨v, h1, h2⟩ => ⟨v, h1, h2.fut RR.stays hf⟩
theorem rws_at {w : World} {A : Option Addr} {n cap M : Nat} {ss : List (List Rw)} (h : SlRep 1 M RRs w (.slice A n cap) ss) {k : Nat} (hk : k < ss.length) :
    ∃ b off A' cap', A = some ⟨b, off, none⟩ ∧ w.cell? ⟨b, off + k, none⟩ = some (.slice A' (ss[k]).length cap') ∧ (ss[k]).length ≤ cap' ∧ cap' ≤ 9223372036854775807 ∧ Rws w (.slice A' (ss[k]).length cap') ss[k] := by
  obtain ⟨A1, cap1, hv, _, _, h3⟩ := h
  obtain ⟨b, off, cs, hA, hl, hc, u, hr, hu⟩ := h3 k _ (List.getElem?_eq_getElem hk)
  injection hv with hv _ _
  subst hr
  obtain ⟨A', cap', rfl, h4, h5⟩ := SlRep.form hu
  exact ⟨b, off, A', cap', hv.trans hA, by have := hc 0 _ rfl; simpa using this, h4, h5, hu⟩
def sumL (ss : List (List Rw)) : Nat := ss.flatten.length
theorem sumL_take (ss : List (List Rw)) (k : Nat) (hk : k < ss.length) : sumL (ss.take (k + 1)) = sumL (ss.take k) + (ss[k]).length := by
  unfold sumL
  rw [List.take_succ_eq_append_getElem hk, List.flatten_append, List.length_append]; simp
theorem sumL_le (ss : List (List Rw)) (k : Nat) : sumL (ss.take k) ≤ sumL ss := by
  conv => rhs; rw [← List.take_append_drop k ss]
  unfold sumL
  rw [List.flatten_append, List.length_append]; omega
end Go.Proofs.Ytkdnplebgmmclaa
/- Relation.Add. -/
namespace Go.Proofs.Ytkdnplebgmmclaa
open Go.RowKit Go.WideMaps
set_option linter.unusedSimpArgs false
set_option linter.unusedVariables false

def addL (ar : Nat) (xs : List Rw) (x : Rw) : List Rw := if (rightP ar x && !decide (x ∈ xs)) = true then xs ++ [x] else xs
def rowErr : Bool → Int
  | true => 0
  | false => 100
end Go.Proofs.Ytkdnplebgmmclaa
