/- Lists of tuples and lists of facts: as arguments hold them, as the call's own; append. No program. -/
import Derived.Test.YtcekphjcmippoaaOwn
namespace Go.Proofs.Ytcekphjcmippoaa
open Go.RowKit
set_option linter.unusedSimpArgs false
set_option linter.unusedVariables false

/-! ### Within: tuples of any make -/
def RT (w : World) (cs : List Value) (xs : List V) : Prop := ∃ v, cs = [v] ∧ Vals w v xs
theorem RT.stays : Stays RT := fun _ _ _ _ hf ⟨v, h1, h2⟩ => ⟨v, h1, h2.fut RV.stays hf⟩
abbrev Tups : World → Value → List (List V) → Prop := SlRep 1 9223372036854775807 RT
abbrev TupsA : World → Value → List (List V) → Prop := SlRep 1 5864062014805 (SlR 3 4398046511104 RV)
theorem TupsA.tups {w : World} {v : Value} {ts : List (List V)} (h : TupsA w v ts) : Tups w v ts :=
  (SlRep.imp h fun cs x ⟨v, h1, h2⟩ => (⟨v, h1, ValsA.vals h2⟩ : RT w cs x)).more (by omega)
theorem Tups.at_ {w : World} {A : Option Addr} {n cap : Nat} {ts : List (List V)} (h : Tups w (.slice A n cap) ts) {k : Nat} (hk : k < ts.length) :
    ∃ b off A' cap', A = some ⟨b, off, none⟩ ∧ w.cell? ⟨b, off + k, none⟩ = some (.slice A' (ts[k]).length cap') ∧ (ts[k]).length ≤ cap' ∧ cap' ≤ 9223372036854775807 ∧ Vals w (.slice A' (ts[k]).length cap') ts[k] := by
  obtain ⟨A1, cap1, hv, _, _, h3⟩ := h
  obtain ⟨b, off, cs, hA, hl, hc, u, hr, hu⟩ := h3 k _ (List.getElem?_eq_getElem hk)
  injection hv with hv _ _
  subst hr
  obtain ⟨A', cap', rfl, h4, h5⟩ := SlRep.form hu
  exact ⟨b, off, A', cap', hv.trans hA, by have := hc 0 _ rfl; simpa using this, h4, h5, hu⟩
def RG (w : World) (cs : List Value) (x : Fc) : Prop := ∃ v, cs = [.string x.p, v] ∧ x.p.size ≤ 140737488351232 ∧ Vals w v x.a
theorem RG.stays : Stays RG := fun _ _ _ _ hf ⟨v, h1, h2, h3⟩ => ⟨v, h1, h2, h3.fut RV.stays hf⟩
abbrev FacsG : World → Value → List Fc → Prop := SlRep 2 9223372036854775807 RG
theorem Facs.g {w : World} {v : Value} {fs : List Fc} (h : Facs w v fs) : FacsG w v fs :=
  (SlRep.imp h fun cs x ⟨v, h1, h2, h3⟩ => (⟨v, h1, h2, ValsA.vals h3⟩ : RG w cs x)).more (by omega)
theorem FacsG.at_ {w : World} {A : Option Addr} {n cap : Nat} {fs : List Fc} (h : FacsG w (.slice A n cap) fs) {k : Nat} (hk : k < fs.length) :
    ∃ b off A' cap', A = some ⟨b, off, none⟩ ∧ (fs[k]).p.size ≤ 140737488351232 ∧ w.cell? ⟨b, off + k * 2, none⟩ = some (.string (fs[k]).p) ∧ w.cell? ⟨b, off + k * 2 + 1, none⟩ = some (.slice A' (fs[k]).a.length cap') ∧ (fs[k]).a.length ≤ cap' ∧ cap' ≤ 9223372036854775807 ∧ Vals w (.slice A' (fs[k]).a.length cap') (fs[k]).a := by
  obtain ⟨A1, cap1, hv, _, _, h3⟩ := h
  obtain ⟨b, off, cs, hA, hl, hc, u, hr, hp, hu⟩ := h3 k _ (List.getElem?_eq_getElem hk)
  injection hv with hv _ _
  subst hr
  obtain ⟨A', cap', rfl, h4, h5⟩ := SlRep.form hu
  exact ⟨b, off, A', cap', hv.trans hA, hp, hc 0 _ rfl, hc 1 _ rfl, h4, h5, hu⟩
theorem FacsG.size {w : World} {v : Value} {fs : List Fc} (h : FacsG w v fs) : ∀ f ∈ fs, f.p.size ≤ 140737488351232 := by
  obtain ⟨A, cap, _, _, _, h3⟩ := h
  intro f hf
  obtain ⟨i, hi⟩ := List.getElem?_of_mem hf
  obtain ⟨_, _, _, _, _, _, _, _, hp, _⟩ := h3 i f hi
  exact hp

/-! ### Lists of the call's own, whose elements lie in memory of the call's own -/
section
variable {α : Type} {sz B M : Nat} {e ei : TypeId} {R R' : World → List Value → α → Prop} {w w' : World} {v u : Value} {xs ys : List α}
theorem OwnL.typed (h : OwnL sz B e R w v xs) : ∀ k, v.ownBlock = some k → ∃ arr, w.heap[k]? = some (.cells arr e (0, 0)) := by
  intro k hk
  obtain ⟨css, h1, h2, h3, h4⟩ := h
  rcases h4 with ⟨rfl, _⟩ | ⟨g, cap, cur, rfl, a2, a3, _⟩
  · cases hk
  · simp only [Value.ownBlock, Option.some.injEq] at hk
    subst hk
    exact ⟨cur, a3⟩
theorem OwnL.imp (h : OwnL sz B e R w v xs) (hR : ∀ cs x, R w cs x → R' w cs x) : OwnL sz B e R' w v xs := by
  obtain ⟨css, h1, h2, h3⟩ := h
  exact ⟨css, h1, fun i cs x hi hx => ⟨(h2 i cs x hi hx).1, hR _ _ (h2 i cs x hi hx).2⟩, h3⟩
theorem OwnL.base {B' : Nat} (h : OwnL sz B e R w v xs) (hB : B' ≤ B) : OwnL sz B' e R w v xs := by
  obtain ⟨css, h1, h2, h3, h4⟩ := h
  refine ⟨css, h1, h2, h3, ?_⟩
  rcases h4 with h4 | ⟨g, cap, cur, a1, a2, a3⟩
  · exact .inl h4
  · exact .inr ⟨g, cap, cur, a1, Nat.le_trans hB a2, a3⟩
/-- What a write into a row of another type does not turn. -/
def Keeps (e : TypeId) (R : World → List Value → α → Prop) : Prop :=
  ∀ (w w' : World) (row : Option Nat) (cs : List Value) (x : α), R w cs x → w.grownBy w' row → (∀ k, row = some k → ∃ arr, w.heap[k]? = some (.cells arr e (0, 0))) → R w' cs x
theorem OwnL.kept {row : Option Nat} (h : OwnL sz B ei R w v xs) (hR : ∀ cs x, R w cs x → R w' cs x) (hg : w.grownBy w' row) (ht : ∀ k, row = some k → ∃ arr, w.heap[k]? = some (.cells arr e (0, 0))) (hne : ei ≠ e) : OwnL sz B ei R w' v xs := by
  have hty := h.typed
  obtain ⟨css, h1, h2, h3⟩ := h
  refine ⟨css, h1, fun i cs x hi hx => ⟨(h2 i cs x hi hx).1, hR _ _ (h2 i cs x hi hx).2⟩, h3.kept hg ?_⟩
  cases hv : v.ownBlock with
  | none => exact .inl rfl
  | some k =>
    right
    intro hr
    obtain ⟨arr, h5⟩ := hty k hv
    obtain ⟨arr', h6⟩ := ht k hr.symm
    rw [h5] at h6
    injection h6 with h6
    injection h6 with _ h7
    exact hne h7
/-- APPEND, elements that Keep. -/
theorem wpList_append_L {P : Program} {ops : Array Oper} {rest : List Oper} {o : Oper} {a : Act} {Q : Exit → Act → World → Prop} (hgd : Region.wanted o (yielded ops a.tmps) = true) (s x : Operand) (t : TypeId)
    (ho : o.op = .call { callee := .builtin .append, args := #[s, x], argTypes := #[t, t] }) (ht : P.underlying t = some (.slice e)) (z : Value) (bytes : Nat)
    (hinfo : (P.info? e).map (fun i => (i.zero, i.size, i.bytes)) = some (some z, sz, bytes)) (hzs : z.cells.size = sz) (hsz : 0 < sz)
    (hR1 : ∀ w cs x, R w cs x → ∀ u ∈ cs, u.oneCell' = true) (hRk : Keeps e R)
    (hs : a.eval s = v) (hx : a.eval x = u) (hown : OwnL sz B e R w v xs) (hu : SlRep sz M R w u ys) (h63 : xs.length + ys.length ≤ maxLen) (hbytes : (xs.length + ys.length) * bytes ≤ 140737488355328) (hbase : B ≤ w.heap.size)
    (h : ∀ v' w', OwnL sz B e R w' v' (xs ++ ys) → w.grownBy w' v.ownBlock → wpList P ops Q rest (a.put o.dst v') w') : wpList P ops Q (o :: rest) a w := by
  obtain ⟨i, hi, hz, hs', hb⟩ := info_parts hinfo
  obtain ⟨v', w', hr, h2, h3⟩ := run_append_list t o.type i z bytes ht hi hz hs' hb hzs hsz hR1 (fun w' cs x hr hg => hRk w w' _ cs x hr hg hown.typed) hown hu h63 hbytes hbase
  refine wpList_step fun K hK => ?_
  rw [if_pos hgd]
  unfold Oper.wp
  have hrun : (execOp a.eval o).run P w = .ok (.value v') w' := by
    unfold execOp
    simp only [ho, resolve, invoke, builtin, Sem.run_bind, Sem.run_pure, Result.andThen_ok, List.map_toArray, List.map_cons, List.map_nil, hs, hx, hr]
  rw [hrun]
  exact hK _ _ (h v' w' h2 h3)
end

/-- Tuples, facts in memory of the call's own: B: from this block on. -/
def RTo (B : Nat) (ev : TypeId) (w : World) (cs : List Value) (xs : List V) : Prop := ∃ v, cs = [v] ∧ OwnV B ev w v xs
def RGo (B : Nat) (ev : TypeId) (w : World) (cs : List Value) (x : Fc) : Prop := ∃ v, cs = [.string x.p, v] ∧ x.p.size ≤ 140737488351232 ∧ OwnV B ev w v x.a
section
variable {B M : Nat} {e ev : TypeId} {w w' : World} {v u : Value}
theorem RTo.stays : Stays (RTo B ev) := fun _ _ _ _ hf ⟨v, h1, h2⟩ => ⟨v, h1, h2.fut RV.stays hf⟩
theorem RGo.stays : Stays (RGo B ev) := fun _ _ _ _ hf ⟨v, h1, h2, h3⟩ => ⟨v, h1, h2, h3.fut RV.stays hf⟩
theorem RTo.keeps (hne : ev ≠ e) : Keeps e (RTo B ev) := fun w w' row cs x ⟨v, h1, h2⟩ hg ht => ⟨v, h1, h2.kept (fun _ _ h => h) hg ht hne⟩
theorem RGo.keeps (hne : ev ≠ e) : Keeps e (RGo B ev) := fun w w' row cs x ⟨v, h1, h2, h3⟩ hg ht => ⟨v, h1, h2, h3.kept (fun _ _ h => h) hg ht hne⟩
theorem slice_one {A : Option Addr} {n c : Nat} : (Value.slice A n c).oneCell' = true := rfl
theorem RTo.one : ∀ (w : World) cs x, RTo B ev w cs x → ∀ u ∈ cs, u.oneCell' = true := fun w cs x ⟨v, h1, h2⟩ u hu => by
  obtain ⟨A, cap, rfl, _⟩ := h2.vals.form
  subst h1
  simp only [List.mem_singleton] at hu
  subst hu; rfl
theorem RGo.one : ∀ (w : World) cs x, RGo B ev w cs x → ∀ u ∈ cs, u.oneCell' = true := fun w cs x ⟨v, h1, _, h2⟩ u hu => by
  obtain ⟨A, cap, rfl, _⟩ := h2.vals.form
  subst h1
  simp only [List.mem_cons, List.not_mem_nil, or_false] at hu
  rcases hu with rfl | rfl <;> rfl
theorem OwnT.tups {ts : List (List V)} (h : OwnL 1 B e (RTo B ev) w v ts) : Tups w v ts :=
  (h.rep.imp fun cs x ⟨v, h1, h2⟩ => (⟨v, h1, h2.vals⟩ : RT w cs x)).more (by unfold maxLen; omega)
theorem OwnG.facs {fs : List Fc} (h : OwnL 2 B e (RGo B ev) w v fs) : FacsG w v fs :=
  (h.rep.imp fun cs x ⟨v, h1, h2, h3⟩ => (⟨v, h1, h2, h3.vals⟩ : RG w cs x)).more (by unfold maxLen; omega)
/-- What was there is told of as it was, whatever is written into rows of the call's own. -/
theorem const_keeps {α : Type} {R : World → List Value → α → Prop} (w0 : World) : Keeps e (fun _ => R w0) := fun _ _ _ _ _ h _ _ => h
theorem RT.one : ∀ (w : World) cs x, RT w cs x → ∀ u ∈ cs, u.oneCell' = true := fun w cs x ⟨v, h1, h2⟩ u hu => by
  obtain ⟨A, cap, rfl, _⟩ := h2.form
  subst h1
  simp only [List.mem_singleton] at hu
  subst hu; rfl
theorem RG.one : ∀ (w : World) cs x, RG w cs x → ∀ u ∈ cs, u.oneCell' = true := fun w cs x ⟨v, h1, _, h2⟩ u hu => by
  obtain ⟨A, cap, rfl, _⟩ := h2.form
  subst h1
  simp only [List.mem_cons, List.not_mem_nil, or_false] at hu
  rcases hu with rfl | rfl <;> rfl
end

def partsT : List (List V) → Nat
  | [] => 0
  | t :: r => 1 + t.length + partsT r
theorem partsT_take (ts : List (List V)) (k : Nat) (hk : k < ts.length) : partsT (ts.take (k + 1)) = partsT (ts.take k) + (1 + (ts[k]).length) := by
  induction ts generalizing k with
  | nil => simp at hk
  | cons f r ih =>
    cases k with
    | zero => simp [partsT]
    | succ k => simp only [List.take_succ_cons, partsT, List.getElem_cons_succ]; rw [ih k (by simpa using hk)]; omega
theorem partsT_le (ts : List (List V)) (k : Nat) : partsT (ts.take k) ≤ partsT ts := by
  induction ts generalizing k with
  | nil => simp
  | cons f r ih =>
    cases k with
    | zero => simp [partsT]
    | succ k => simp only [List.take_succ_cons, partsT]; have := ih k; omega
theorem partsT_len (ts : List (List V)) : ts.length ≤ partsT ts := by
  induction ts with
  | nil => simp
  | cons f r ih => simp only [List.length_cons, partsT]; omega
theorem partsT_mem {ts : List (List V)} {t : List V} (h : t ∈ ts) : t.length ≤ partsT ts := by
  induction ts with
  | nil => simp at h
  | cons f r ih =>
    simp only [partsT]
    rcases List.mem_cons.1 h with rfl | h
    · omega
    · have := ih h; omega
end Go.Proofs.Ytcekphjcmippoaa
