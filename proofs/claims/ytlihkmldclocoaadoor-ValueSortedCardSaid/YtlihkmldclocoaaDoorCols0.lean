/- For ValueColumns: append in a walk; SameFact; plain laws of the order of tuples. -/
import Derived.Test.YtlihkmldclocoaaDoorOwn
import Derived.Test.YtlihkmldclocoaaDoorRing
namespace Go.Proofs.YtlihkmldclocoaaDoor
open Go.RowKit
set_option linter.unusedSimpArgs false
set_option linter.unusedVariables false

theorem run_op_append {P : Program} {o : Oper} {a : Act} {w w' : World} {s x : Operand} {t : TypeId} {v u v' : Value} (ho : o.op = .call { callee := .builtin .append, args := #[s, x], argTypes := #[t, t] })
    (hs : a.eval s = v) (hx : a.eval x = u) (hr : (Builtin.append_ #[t, t] o.type #[v, u]).run P w = .ok v' w') : (execOp a.eval o).run P w = .ok (.value v') w' := by
  unfold execOp
  simp only [ho, resolve, invoke, builtin, Sem.run_bind, Sem.run_pure, Result.andThen_ok, List.map_toArray, List.map_cons, List.map_nil, hs, hx, hr]
theorem wpList_append_V {P : Program} {ops : Array Oper} {rest : List Oper} {o : Oper} {a : Act} {Q : Exit → Act → World → Prop} {w : World} (hgd : Region.wanted o (yielded ops a.tmps) = true) (s x : Operand) (t e : TypeId)
    (ho : o.op = .call { callee := .builtin .append, args := #[s, x], argTypes := #[t, t] }) (ht : P.underlying t = some (.slice e))
    (hinfo : (P.info? e).map (fun i => (i.zero, i.size, i.bytes)) = some (some (.agg #[.int .i8 0, .int .i64 0, .string ⟨#[]⟩]), 3, 32))
    (B : Nat) (v u : Value) (xs ys : List V) {M : Nat} (hs : a.eval s = v) (hx : a.eval x = u) (hown : OwnV B e w v xs) (hu : SlRep 3 M RV w u ys) (hlen : xs.length + ys.length ≤ 4398046511104) (hbase : B ≤ w.heap.size)
    (h : ∀ v' w', OwnV B e w' v' (xs ++ ys) → w.grownBy w' v.ownBlock → wpList P ops Q rest (a.put o.dst v') w') : wpList P ops Q (o :: rest) a w := by
  obtain ⟨v', w', hr, h2, h3⟩ := run_append_V (ty := o.type) ht hinfo hown hu hlen hbase
  refine wpList_step fun K hK => ?_
  rw [if_pos hgd]
  unfold Oper.wp
  rw [run_op_append ho hs hx hr]
  exact hK _ _ (h v' w' h2 h3)

/-- A slice literal of one value is a list of the call's own. -/
theorem own_one (w : World) (x : V) (hx : x.ok) (e : TypeId) (B : Nat) (hB : B ≤ w.heap.size) : OwnV B e (w.alloc (.cells #[.int .i8 x.k, .int .i64 x.n, .string x.s] e)) (.slice (some ⟨w.heap.size, 0, none⟩) 1 1) [x] := by
  refine ⟨[x.cells], rfl, fun i cs y hi hy => ?_, by simp [V.cells], .inr ⟨w.heap.size, 1, #[.int .i8 x.k, .int .i64 x.n, .string x.s], rfl, hB, heap_alloc_new w _, Nat.le_refl _, by decide, rfl, by simp [V.cells]⟩⟩
  have h0 : i = 0 := by
    have := (List.getElem?_eq_some_iff.1 hi).1
    simp at this; omega
  subst h0
  simp at hi hy
  subst hi; subst hy
  exact ⟨rfl, rfl, hx⟩

instance : DecidableEq Fc := fun x y =>
  if h : x.p.toList = y.p.toList ∧ x.a = y.a then .isTrue (by obtain ⟨p, a⟩ := x; obtain ⟨q, b⟩ := y; obtain ⟨h1, h2⟩ := h; simp only at h1 h2; rw [ByteArray.toList_eq, ByteArray.toList_eq] at h1; rw [WideShapes.bytes_inj h1, h2])
  else .isFalse (fun e => h (by subst e; exact ⟨rfl, rfl⟩))
theorem Fc.eq_iff (x y : Fc) : x = y ↔ x.p.toList = y.p.toList ∧ x.a = y.a :=
  ⟨fun e => by subst e; exact ⟨rfl, rfl⟩, fun h => by obtain ⟨p, a⟩ := x; obtain ⟨q, b⟩ := y; obtain ⟨h1, h2⟩ := h; simp only at h1 h2; rw [ByteArray.toList_eq, ByteArray.toList_eq] at h1; rw [WideShapes.bytes_inj h1, h2]⟩
set_option maxHeartbeats 400000 in
theorem sameF_any (f g : Fc) (u v : Value) (w : World) (hu : Vals w u f.a) (hv : Vals w v g.a) :
    Calls Tryd.prog 64 #[.agg #[.string f.p, u], .agg #[.string g.p, v]] w fun e w' => e = .returned (.bool (decide (f = g))) ∧ Fut w w' := by
  obtain ⟨A, cap, rfl, hl, hm⟩ := SlRep.form hu
  obtain ⟨B, cap', rfl, hl', hm'⟩ := SlRep.form hv
  have hf0 : ∀ X Y, Fut w ((w.alloc X).alloc Y) := fun X Y => ((Fut.alloc _ _).trans (Fut.alloc _ _))
  by_cases c1 : f.p.toList = g.p.toList
  · have d1 : (f.p.toList == g.p.toList) = true := by simpa using c1
    have hr := Lib.hid (show decide (f = g) = decide (f.a = g.a) from decide_eq_decide.2 ⟨fun h => ((Fc.eq_iff _ _).1 h).2, fun h => (Fc.eq_iff _ _).2 ⟨c1, h⟩⟩)
    clear c1
    go_enter Tryd.func64, Tryd.ntmps64
    go_wp2_with fail
    refine (same_any _ _ f.a g.a _ (hu.fut RV.stays (hf0 _ _)) (hv.fut RV.stays (hf0 _ _))).mono ?_
    rintro e w1 ⟨rfl, h1⟩
    go_wp2
    all_goals go_ret
    all_goals refine ⟨?_, (hf0 _ _).trans h1⟩
    all_goals rw [hr.out]
    all_goals first | rfl | (simp_all; done)
  · have d1 : (f.p.toList == g.p.toList) = false := by simpa using c1
    have hr := Lib.hid (show decide (f = g) = false from decide_eq_false fun h => c1 ((Fc.eq_iff _ _).1 h).1)
    clear c1
    go_enter Tryd.func64, Tryd.ntmps64
    go_wp2
    go_ret
    exact ⟨by rw [hr.out]; rfl, hf0 _ _⟩

theorem facs_three (w : World) (n : Nat) (f g h : Fc) (u v t : Value) (hn : n = w.heap.size) (hu : ValsA w u f.a) (hv : ValsA w v g.a) (ht : ValsA w t h.a) (hp : f.p.size ≤ 140737488351232) (hq : g.p.size ≤ 140737488351232) (hr : h.p.size ≤ 140737488351232) :
    Facs (w.alloc (.cells #[.string f.p, u, .string g.p, v, .string h.p, t] 54)) (.slice (some ⟨n, 0, none⟩) 3 3) [f, g, h] := by
  subst hn
  have hF := Fut.alloc w (.cells #[.string f.p, u, .string g.p, v, .string h.p, t] 54)
  refine ⟨_, 3, rfl, Nat.le_refl _, by omega, fun i x hx => ?_⟩
  have hil : i < 3 := (List.getElem?_eq_some_iff.1 hx).1
  rcases (by omega : i = 0 ∨ i = 1 ∨ i = 2) with rfl | rfl | rfl
  · simp at hx
    subst hx
    refine ⟨_, 0, [.string f.p, u], rfl, rfl, fun j c hj => ?_, u, rfl, hp, hu.fut RV.stays hF⟩
    have hjl : j < 2 := (List.getElem?_eq_some_iff.1 hj).1
    refine (World.cell?_alloc_mark w _ _ (0, 0) _).trans ?_
    rcases (by omega : j = 0 ∨ j = 1) with rfl | rfl <;> simpa using hj
  · simp at hx
    subst hx
    refine ⟨_, 0, [.string g.p, v], rfl, rfl, fun j c hj => ?_, v, rfl, hq, hv.fut RV.stays hF⟩
    have hjl : j < 2 := (List.getElem?_eq_some_iff.1 hj).1
    refine (World.cell?_alloc_mark w _ _ (0, 0) _).trans ?_
    rcases (by omega : j = 0 ∨ j = 1) with rfl | rfl <;> simpa using hj
  · simp at hx
    subst hx
    refine ⟨_, 0, [.string h.p, t], rfl, rfl, fun j c hj => ?_, t, rfl, hr, ht.fut RV.stays hF⟩
    have hjl : j < 2 := (List.getElem?_eq_some_iff.1 hj).1
    refine (World.cell?_alloc_mark w _ _ (0, 0) _).trans ?_
    rcases (by omega : j = 0 ∨ j = 1) with rfl | rfl <;> simpa using hj
theorem cmpT_more (xs : List V) (v : V) : cmpT xs (xs ++ [v]) = -1 := by
  induction xs with
  | nil => rfl
  | cons a r ih => simp only [List.cons_append, cmpT]; rw [ordV.refl a]; simpa using ih
theorem cmpT_ahead (a b c : List V) : cmpT (a ++ b) (a ++ c) = cmpT b c := by
  induction a with
  | nil => rfl
  | cons x r ih => simp only [List.cons_append, cmpT]; rw [ordV.refl x]; simpa using ih
theorem cmpT_first (v u : V) (a b : List V) (h : cmpV v u ≠ 0) : cmpT (v :: a) (u :: b) = cmpV v u := by
  simp only [cmpT]; rw [if_pos h]
end Go.Proofs.YtlihkmldclocoaaDoor
