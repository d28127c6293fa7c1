/- Lists of bytes: a list that the call builds by append; a literal. Generic; and the byte's row of the type table. -/
import Derived.Test.YtlihkmldclocoaaDoorFrame
namespace Go.Proofs.YtlihkmldclocoaaDoor
open Go.RowKit
set_option linter.unusedSimpArgs false
set_option linter.unusedVariables false

def RB (_ : World) (cs : List Value) (x : UInt8) : Prop := cs = [.int .u8 x.toNat]
theorem RB.stays : Stays RB := fun _ _ _ _ _ h => h
theorem RB.one : ∀ (w : World) cs x, RB w cs x → ∀ u ∈ cs, u.oneCell' = true := fun w cs x h u hu => by
  subst h
  simp at hu; subst hu; rfl
abbrev OwnB (B : Nat) (e : TypeId) : World → Value → List UInt8 → Prop := OwnL 1 B e RB
theorem run_append_B {P : Program} {t ty e : TypeId} {B : Nat} {w : World} {v u : Value} {xs ys : List UInt8} {M : Nat} (ht : P.underlying t = some (.slice e))
    (hinfo : (P.info? e).map (fun i => (i.zero, i.size, i.bytes)) = some (some (.int .u8 0), 1, 1))
    (h : OwnB B e w v xs) (hu : SlRep 1 M RB w u ys) (hlen : xs.length + ys.length ≤ 140737488355328) (hbase : B ≤ w.heap.size) :
    ∃ v' w', (Builtin.append_ #[t, t] ty #[v, u]).run P w = .ok v' w' ∧ OwnB B e w' v' (xs ++ ys) ∧ w.grownBy w' v.ownBlock := by
  obtain ⟨i, hi, hz, hs, hb⟩ := info_parts hinfo
  exact run_append_list t ty i _ 1 ht hi hz hs hb rfl (by omega) RB.one (fun _ _ _ h _ => h) h hu (by unfold maxLen; omega) (by omega) hbase
theorem run_op_append' {P : Program} {o : Oper} {a : Act} {w w' : World} {s x : Operand} {t : TypeId} {v u v' : Value} (ho : o.op = .call { callee := .builtin .append, args := #[s, x], argTypes := #[t, t] })
    (hs : a.eval s = v) (hx : a.eval x = u) (hr : (Builtin.append_ #[t, t] o.type #[v, u]).run P w = .ok v' w') : (execOp a.eval o).run P w = .ok (.value v') w' := by
  unfold execOp
  simp only [ho, resolve, invoke, builtin, Sem.run_bind, Sem.run_pure, Result.andThen_ok, List.map_toArray, List.map_cons, List.map_nil, hs, hx, hr]
theorem wpList_append_B {P : Program} {ops : Array Oper} {rest : List Oper} {o : Oper} {a : Act} {Q : Exit → Act → World → Prop} {w : World} (hgd : Region.wanted o (yielded ops a.tmps) = true) (s x : Operand) (t e : TypeId)
    (ho : o.op = .call { callee := .builtin .append, args := #[s, x], argTypes := #[t, t] }) (ht : P.underlying t = some (.slice e))
    (hinfo : (P.info? e).map (fun i => (i.zero, i.size, i.bytes)) = some (some (.int .u8 0), 1, 1))
    (B : Nat) (v u : Value) (xs ys : List UInt8) {M : Nat} (hs : a.eval s = v) (hx : a.eval x = u) (hown : OwnB B e w v xs) (hu : SlRep 1 M RB w u ys) (hlen : xs.length + ys.length ≤ 140737488355328) (hbase : B ≤ w.heap.size)
    (h : ∀ v' w', OwnB B e w' v' (xs ++ ys) → w.grownBy w' v.ownBlock → wpList P ops Q rest (a.put o.dst v') w') : wpList P ops Q (o :: rest) a w := by
  obtain ⟨v', w', hr, h2, h3⟩ := run_append_B (ty := o.type) ht hinfo hown hu hlen hbase
  refine wpList_step fun K hK => ?_
  rw [if_pos hgd]
  unfold Oper.wp
  rw [run_op_append' ho hs hx hr]
  exact hK _ _ (h v' w' h2 h3)
theorem flat_map (l : List UInt8) : (l.map fun b => [Value.int .u8 (b.toNat : Int)]).flatten = l.map fun b => Value.int .u8 (b.toNat : Int) := by
  induction l with
  | nil => rfl
  | cons a r ih => simp only [List.map_cons, List.flatten_cons, ih]; rfl
/-- A literal of bytes. -/
theorem bytes_new (w : World) (xs : List UInt8) (e : TypeId) (cs : Array Value) (n : Nat) (hn : n = xs.length) (hc : cs = (xs.map fun b => Value.int .u8 b.toNat).toArray) (h0 : n ≤ 4398046511104) :
    SlRep 1 4398046511104 RB (w.alloc (.cells cs e)) (.slice (some ⟨w.heap.size, 0, none⟩) n n) xs := by
  subst hn; subst hc
  refine ⟨_, _, rfl, Nat.le_refl _, h0, fun i x hx => ?_⟩
  refine ⟨w.heap.size, 0, [.int .u8 x.toNat], rfl, rfl, fun j c hj => ?_, rfl⟩
  have hj0 : j = 0 := by
    have := (List.getElem?_eq_some_iff.1 hj).1
    simp at this; omega
  subst hj0
  simp only [Nat.mul_one, Nat.add_zero, Nat.zero_add]
  simp at hj
  subst hj
  refine (World.cell?_alloc_mark w _ _ (0, 0) _).trans ?_
  simp [hx]
theorem own_new (w : World) (xs : List UInt8) (e : TypeId) (cs : Array Value) (n B : Nat) (hn : n = xs.length) (hc : cs = (xs.map fun b => Value.int .u8 b.toNat).toArray) (hB : B ≤ w.heap.size) (h0 : n ≤ 4398046511104) :
    OwnB B e (w.alloc (.cells cs e)) (.slice (some ⟨w.heap.size, 0, none⟩) n n) xs := by
  subst hn; subst hc
  refine ⟨xs.map fun b => [.int .u8 b.toNat], by simp, fun i cs y hi hy => ?_, ?_, .inr ⟨w.heap.size, xs.length, _, rfl, hB, heap_alloc_new w _, Nat.le_refl _, by unfold maxLen; omega, by simp, ?_⟩⟩
  · simp [hy] at hi
    subst hi
    exact ⟨rfl, rfl⟩
  · rw [flat_map]; simp
  · simp only [List.size_toArray, List.length_map, Nat.mul_one]
    rw [List.take_of_length_le (by simp), flat_map]
/-- A list of bytes as a text. -/
theorem conv_bytes {P : Program} (w : World) (src dst e : TypeId) (v : Value) (l : List UInt8) {M : Nat} (hs : P.underlying src = some (.slice e)) (he : P.underlying e = some (.int .u8)) (hd : P.underlying dst = some .string)
    (h : SlRep 1 M RB w v l) (hne : l ≠ []) : (convert src dst v).run P w = .ok (.string ⟨l.toArray⟩) w := by
  obtain ⟨A, cap, rfl, hl, hm, hx⟩ := h
  cases A with
  | none =>
    obtain ⟨a, r, rfl⟩ := List.exists_cons_of_ne_nil hne
    obtain ⟨_, _, _, hA, _⟩ := hx 0 a rfl
    cases hA
  | some a =>
    refine run_convert_bytes_back w src dst e a cap l hs he hd fun j hj => ?_
    obtain ⟨b, off, cs, hA, h1, h2, h3⟩ := hx j _ (List.getElem?_eq_getElem hj)
    injection hA with hA
    subst hA
    have := h2 0 _ (by rw [show cs = [.int .u8 (l[j].toNat : Int)] from h3]; rfl)
    rw [← this]
    congr 1
    unfold Addr.add
    by_cases h' : j = 0 <;> simp [h']
end Go.Proofs.YtlihkmldclocoaaDoor
