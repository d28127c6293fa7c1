/- Own, Tup, OwnB, Parts, Row -/
import Derived.Laws.AppendOwn
import Derived.OwnWalk
import Derived.WideKeyArr2
import Derived.Maps.Keyed
import Derived.Laws.StructEq
import Derived.Laws.Rows
import Derived.Test.YtcpphabehpbmlaaC02
/-
  A list that the call builds by append: what it holds, whether there was room or a new array was made. Generic in the elements; no program.
-/
namespace Go.Proofs.Ytcpphabehpbmlaa
open Go.RowKit
set_option linter.unusedSimpArgs false
set_option linter.unusedVariables false

/-- A list of the call's own, in a block from B on (or nil). -/
def OwnL {α : Type} (sz B : Nat) (e : TypeId) (R : World → List Value → α → Prop) (w : World) (v : Value) (xs : List α) : Prop :=
  ∃ css : List (List Value), css.length = xs.length ∧ (∀ (i : Nat) (cs : List Value) (x : α), css[i]? = some cs → xs[i]? = some x → cs.length = sz ∧ R w cs x) ∧ w.ownsRow B e sz v xs.length css.flatten
section
variable {α : Type} {sz B M : Nat} {e : TypeId} {R : World → List Value → α → Prop} {w w' : World} {v u : Value} {xs ys : List α}
theorem OwnL.nil : OwnL sz B e R w (.slice none 0 0) ([] : List α) := ⟨[], rfl, fun i cs x h => by simp at h, World.ownsRow_nil w B e sz⟩
theorem OwnL.fut (hR : Stays R) (h : OwnL sz B e R w v xs) (hf : Fut w w') : OwnL sz B e R w' v xs := by
  obtain ⟨css, h1, h2, h3, h4⟩ := h
  refine ⟨css, h1, fun i cs x hi hx => ⟨(h2 i cs x hi hx).1, hR _ _ _ _ hf (h2 i cs x hi hx).2⟩, h3, ?_⟩
  rcases h4 with h4 | ⟨g, cap, cur, a1, a2, a3, a4⟩
  · exact .inl h4
  · exact .inr ⟨g, cap, cur, a1, a2, hf.block a3, a4⟩
theorem flatten_at {css : List (List Value)} (hs : ∀ (i : Nat) (cs : List Value), css[i]? = some cs → cs.length = sz) : ∀ (i j : Nat) (cs : List Value) (c : Value), css[i]? = some cs → cs[j]? = some c → css.flatten[i * sz + j]? = some c := by
  induction css with
  | nil => intro i j cs c h; simp at h
  | cons a r ih =>
    intro i j cs c h hj
    have ha := hs 0 a rfl
    cases i with
    | zero =>
      simp only [List.getElem?_cons_zero, Option.some.injEq] at h
      subst h
      rw [Nat.zero_mul, Nat.zero_add, List.flatten_cons, List.getElem?_append_left (List.getElem?_eq_some_iff.1 hj).1]
      exact hj
    | succ i =>
      rw [List.flatten_cons, List.getElem?_append_right (by rw [ha, Nat.add_mul]; omega), ha, show (i + 1) * sz + j - sz = i * sz + j by rw [Nat.add_mul]; omega]
      exact ih (fun k cs hk => hs (k + 1) cs (by simpa using hk)) i j cs c (by simpa using h) hj
theorem flatten_len {css : List (List Value)} (hs : ∀ (i : Nat) (cs : List Value), css[i]? = some cs → cs.length = sz) : css.flatten.length = css.length * sz := by
  induction css with
  | nil => simp
  | cons a r ih =>
    rw [List.flatten_cons, List.length_append, hs 0 a rfl, ih fun k cs hk => hs (k + 1) cs (by simpa using hk), List.length_cons, Nat.add_mul]; omega
/-- Read as a list. -/
theorem OwnL.rep (h : OwnL sz B e R w v xs) : SlRep sz maxLen R w v xs := by
  obtain ⟨css, h1, h2, h3, h4⟩ := h
  rcases h4 with ⟨rfl, h5⟩ | ⟨g, cap, cur, rfl, a2, a3, a4, a5, a6, a7⟩
  · have : xs = [] := List.length_eq_zero_iff.1 h5
    subst this
    exact ⟨none, 0, rfl, Nat.le_refl _, Nat.zero_le _, fun i x hx => by simp at hx⟩
  · refine ⟨_, cap, rfl, a4, a5, fun i x hx => ?_⟩
    have hil : i < xs.length := (List.getElem?_eq_some_iff.1 hx).1
    have hc : css[i]? = some (css[i]'(by omega)) := List.getElem?_eq_getElem (by omega)
    obtain ⟨b1, b2⟩ := h2 i _ x hc hx
    refine ⟨g, 0, _, rfl, b1, fun j c hj => ?_, b2⟩
    have hs : ∀ (i : Nat) (cs : List Value), css[i]? = some cs → cs.length = sz := fun i cs hi => by
      have hl : i < css.length := (List.getElem?_eq_some_iff.1 hi).1
      exact (h2 i cs _ hi (List.getElem?_eq_getElem (by omega))).1
    have hf := flatten_at hs i j _ c hc hj
    have hfl : i * sz + j < xs.length * sz := by
      have := (List.getElem?_eq_some_iff.1 hf).1
      rwa [flatten_len hs, h1] at this
    rw [← a7, List.getElem?_take, if_pos hfl, Array.getElem?_toList] at hf
    rw [Nat.zero_add]
    simp [World.cell?, a3, hf]
/-- .. its block. -/
theorem OwnL.block (h : OwnL sz B e R w v xs) : ∀ k, v.ownBlock = some k → B ≤ k ∧ k < w.heap.size := by
  obtain ⟨css, h1, h2, h3⟩ := h
  exact h3.lt
theorem Fut.grown {w0 : World} (h : Fut w0 w) {row : Option Nat} (hg : w.grownBy w' row) (hrow : ∀ k, row = some k → w0.heap.size ≤ k) : Fut w0 w' :=
  ⟨hg.os.trans h.os, hg.tape.trans h.tape, hg.output.trans h.output, Nat.le_trans h.size hg.size, fun k hk => (hg.block k (Nat.lt_of_lt_of_le hk h.size) (fun e => absurd (hrow k e.symm) (by omega))).trans (Below.block h k hk)⟩
theorem run_append_none {P : Program} (t ty : TypeId) (i : TypeInfo) (ht : P.underlying t = some (.slice e)) (hi : P.info? e = some i) (A : Option Addr) (n cap c : Nat) (hn : n ≤ cap) (w : World) :
    (Builtin.append_ #[t, t] ty #[.slice A n cap, .slice none 0 c]).run P w = .ok (.slice A n cap) w := by
  cases A <;> simp [Builtin.append_, run_underlying ht, sizeOf, typeInfo, hi, Builtin.lenOf, run_firstCells_none, hn, storeCells]

/-- APPEND: the list grows by what the second one holds. -/
theorem run_append_list {P : Program} (t ty : TypeId) (i : TypeInfo) (z : Value) (bytes : Nat) (ht : P.underlying t = some (.slice e)) (hi : P.info? e = some i) (hz : i.zero = some z) (hsize : i.size = sz) (hby : i.bytes = bytes) (hzs : z.cells.size = sz) (hsz : 0 < sz)
    (hR1 : ∀ w cs x, R w cs x → ∀ u ∈ cs, u.oneCell' = true) (hRk : ∀ w' cs (x : α), R w cs x → w.grownBy w' v.ownBlock → R w' cs x)
    (h : OwnL sz B e R w v xs) (hu : SlRep sz M R w u ys) (h63 : xs.length + ys.length ≤ maxLen) (hbytes : (xs.length + ys.length) * bytes ≤ 140737488355328) (hbase : B ≤ w.heap.size) :
    ∃ v' w', (Builtin.append_ #[t, t] ty #[v, u]).run P w = .ok v' w' ∧ OwnL sz B e R w' v' (xs ++ ys) ∧ w.grownBy w' v.ownBlock := by
  have h0 := h
  obtain ⟨css, h1, h2, h3⟩ := h
  obtain ⟨A, cap, rfl, hl, hm, hx⟩ := hu
  have hgrow : ∀ w', w.grownBy w' v.ownBlock → ∀ (i : Nat) (cs : List Value) (x : α), css[i]? = some cs → xs[i]? = some x → cs.length = sz ∧ R w' cs x := fun w' hg i cs x hi hx => ⟨(h2 i cs x hi hx).1, hRk _ _ _ (h2 i cs x hi hx).2 hg⟩
  cases A with
  | none =>
    have hy : ys = [] := by
      cases ys with
      | nil => rfl
      | cons y r => obtain ⟨_, _, _, hA, _⟩ := hx 0 y rfl; cases hA
    subst hy
    obtain ⟨A', cap', hv, hl', _⟩ := h0.rep.form
    subst hv
    exact ⟨_, w, run_append_none t ty i ht hi A' _ cap' cap hl' w, by rw [List.append_nil]; exact h0, World.grownBy.refl w _⟩
  | some a =>
    obtain ⟨news, hnl, hnews⟩ := exists_list (p := fun k (cs : List Value) => ∃ y, ys[k]? = some y ∧ cs.length = sz ∧ R w cs y ∧ ∀ j c, cs[j]? = some c → w.cell? (a.add (k * sz + j)) = some c) ys.length fun k hk => by
      obtain ⟨b, off, cs, hA, b1, b2, b3⟩ := hx k _ (List.getElem?_eq_getElem hk)
      injection hA with hA
      subst hA
      refine ⟨cs, _, List.getElem?_eq_getElem hk, b1, b3, fun j c hj => ?_⟩
      rw [← b2 j c hj]
      congr 1
      unfold Addr.add
      by_cases h' : k * sz + j = 0 <;> first | (simp [h']; done) | (simp [h']; omega)
    have hs : ∀ (i : Nat) (cs : List Value), news[i]? = some cs → cs.length = sz := fun i cs hi => by obtain ⟨y, _, b1, _⟩ := hnews i cs hi; exact b1
    have hcells : ∀ j u, news.flatten[j]? = some u → w.cell? (a.add j) = some u := fun j u hj => by
      have hjl : j < news.length * sz := by
        have := (List.getElem?_eq_some_iff.1 hj).1
        rwa [flatten_len hs] at this
      have hk : j / sz < news.length := Nat.div_lt_of_lt_mul (by rw [Nat.mul_comm]; exact hjl)
      obtain ⟨y, _, b1, _, b2⟩ := hnews (j / sz) _ (List.getElem?_eq_getElem hk)
      have hr : j % sz < (news[j / sz]).length := by rw [b1]; exact Nat.mod_lt _ hsz
      have e1 := flatten_at hs (j / sz) (j % sz) _ _ (List.getElem?_eq_getElem hk) (List.getElem?_eq_getElem hr)
      have e2 := b2 (j % sz) _ (List.getElem?_eq_getElem hr)
      rw [show j / sz * sz + j % sz = j by rw [Nat.mul_comm]; exact Nat.div_add_mod j sz] at e1 e2
      rw [hj] at e1
      rw [e2, ← e1]
    have hone : ∀ u ∈ news.flatten, u.oneCell' = true := fun u hu => by
      obtain ⟨cs, hc, hu⟩ := List.mem_flatten.1 hu
      obtain ⟨k, hk⟩ := List.getElem?_of_mem hc
      obtain ⟨y, _, _, b3, _⟩ := hnews k cs hk
      exact hR1 _ _ _ b3 u hu
    obtain ⟨v', w', r1, r2, r3, _⟩ := run_append_own (P := P) (w := w) B t ty e i z sz bytes ht hi hz hsize hby hzs hsz v xs.length css.flatten h3 a ys.length cap news.flatten (by rw [flatten_len hs, hnl]) hcells hone h63 hbytes hbase
    refine ⟨v', w', r1, ⟨css ++ news, by simp [h1, hnl], fun k cs x hk hx' => ?_, by rw [List.flatten_append, List.length_append]; exact r2⟩, r3⟩
    rcases Nat.lt_or_ge k css.length with h' | h'
    · rw [List.getElem?_append_left h'] at hk
      rw [List.getElem?_append_left (by omega)] at hx'
      exact hgrow w' r3 k cs x hk hx'
    · rw [List.getElem?_append_right h'] at hk
      rw [List.getElem?_append_right (by omega)] at hx'
      obtain ⟨y, e1, b1, b3, _⟩ := hnews _ _ hk
      rw [h1, hx'] at e1
      obtain rfl := Option.some.inj e1
      exact ⟨b1, hRk _ _ _ b3 r3⟩
end

/-! ### Values and facts -/
abbrev OwnV (B : Nat) (e : TypeId) : World → Value → List V → Prop := OwnL 3 B e RV
theorem RV.one : ∀ (w : World) cs x, RV w cs x → ∀ u ∈ cs, u.oneCell' = true := fun w cs x h u hu => by
  obtain ⟨rfl, _⟩ := h
  simp [V.cells] at hu
  rcases hu with rfl | rfl | rfl <;> rfl
/-- Lists of values, appended. -/
theorem run_append_V {P : Program} {t ty e : TypeId} {B : Nat} {w : World} {v u : Value} {xs ys : List V} {M : Nat} (ht : P.underlying t = some (.slice e))
    (hinfo : (P.info? e).map (fun i => (i.zero, i.size, i.bytes)) = some (some (.agg #[.int .i8 0, .int .i64 0, .string ⟨#[]⟩]), 3, 32))
    (h : OwnV B e w v xs) (hu : SlRep 3 M RV w u ys) (hlen : xs.length + ys.length ≤ 4398046511104) (hbase : B ≤ w.heap.size) :
    ∃ v' w', (Builtin.append_ #[t, t] ty #[v, u]).run P w = .ok v' w' ∧ OwnV B e w' v' (xs ++ ys) ∧ w.grownBy w' v.ownBlock := by
  obtain ⟨i, hi, hz, hs, hb⟩ := info_parts hinfo
  exact run_append_list t ty i _ 32 ht hi hz hs hb rfl (by omega) RV.one (fun _ _ _ h _ => h) h hu (by unfold maxLen; omega) (by omega) hbase
theorem OwnV.vals {B : Nat} {e : TypeId} {w : World} {v : Value} {xs : List V} (h : OwnV B e w v xs) : Vals w v xs := h.rep.more (by unfold maxLen; omega)
end Go.Proofs.Ytcpphabehpbmlaa
/- Lists of tuples and lists of facts: as arguments hold them, as the call's own; append. No program. -/
namespace Go.Proofs.Ytcpphabehpbmlaa
open Go.RowKit
set_option linter.unusedSimpArgs false
set_option linter.unusedVariables false

/-! ### Within: tuples of any make -/
def RT (w : World) (cs : List Value) (xs : List V) : Prop := ∃ v, cs = [v] ∧ Vals w v xs
theorem RT.stays : Stays RT := fun _ _ _ _ hf ⟨v, h1, h2⟩ => ⟨v, h1, h2.fut RV.stays hf⟩
abbrev Tups : World → Value → List (List V) → Prop := SlRep 1 9223372036854775807 RT
abbrev TupsA : World → Value → List (List V) → Prop := SlRep 1 5864062014805 (SlR 3 4398046511104 RV)
theorem TupsA.tups {w : World} {v : Value} {ts : List (List V)} (h : TupsA w v ts) : Tups w v ts :=
  (SlRep.imp h fun cs x ⟨v, h1, h2⟩ => (⟨v, h1, ValsA.vals h2⟩ : RT w cs x)).more (by omega)
theorem Tups.at_ {w : World} {A : Option Addr} {n cap : Nat} {ts : List (List V)} (h : Tups w (.slice A n cap) ts) {k : Nat} (hk : k < ts.length) :
    ∃ b off A' cap', A = some ⟨b, off, none⟩ ∧ w.cell? ⟨b, off + k, none⟩ = some (.slice A' (ts[k]).length cap') ∧ (ts[k]).length ≤ cap' ∧ cap' ≤ 9223372036854775807 ∧ Vals w (.slice A' (ts[k]).length cap') ts[k] := by
  obtain ⟨A1, cap1, hv, _, _, h3⟩ := h
  obtain ⟨b, off, cs, hA, hl, hc, u, hr, hu⟩ := h3 k _ (List.getElem?_eq_getElem hk)
  injection hv with hv _ _
  subst hr
  obtain ⟨A', cap', rfl, h4, h5⟩ := SlRep.form hu
  exact ⟨b, off, A', cap', hv.trans hA, by have := hc 0 _ rfl; simpa using this, h4, h5, hu⟩
def RG (w : World) (cs : List Value) (x : Fc) : Prop := ∃ v, cs = [.string x.p, v] ∧ x.p.size ≤ 140737488351232 ∧ Vals w v x.a
theorem RG.stays : Stays RG := fun _ _ _ _ hf ⟨v, h1, h2, h3⟩ => ⟨v, h1, h2, h3.fut RV.stays hf⟩
abbrev FacsG : World → Value → List Fc → Prop := SlRep 2 9223372036854775807 RG
theorem Facs.g {w : World} {v : Value} {fs : List Fc} (h : Facs w v fs) : FacsG w v fs :=
  (SlRep.imp h fun cs x ⟨v, h1, h2, h3⟩ => (⟨v, h1, h2, ValsA.vals h3⟩ : RG w cs x)).more (by omega)
theorem FacsG.at_ {w : World} {A : Option Addr} {n cap : Nat} {fs : List Fc} (h : FacsG w (.slice A n cap) fs) {k : Nat} (hk : k < fs.length) :
    ∃ b off A' cap', A = some ⟨b, off, none⟩ ∧ (fs[k]).p.size ≤ 140737488351232 ∧ w.cell? ⟨b, off + k * 2, none⟩ = some (.string (fs[k]).p) ∧ w.cell? ⟨b, off + k * 2 + 1, none⟩ = some (.slice A' (fs[k]).a.length cap') ∧ (fs[k]).a.length ≤ cap' ∧ cap' ≤ 9223372036854775807 ∧ Vals w (.slice A' (fs[k]).a.length cap') (fs[k]).a := by
  obtain ⟨A1, cap1, hv, _, _, h3⟩ := h
  obtain ⟨b, off, cs, hA, hl, hc, u, hr, hp, hu⟩ := h3 k _ (List.getElem?_eq_getElem hk)
  injection hv with hv _ _
  subst hr
  obtain ⟨A', cap', rfl, h4, h5⟩ := SlRep.form hu
  exact ⟨b, off, A', cap', hv.trans hA, hp, hc 0 _ rfl, hc 1 _ rfl, h4, h5, hu⟩
theorem FacsG.size {w : World} {v : Value} {fs : List Fc} (h : FacsG w v fs) : ∀ f ∈ fs, f.p.size ≤ 140737488351232 := by
  obtain ⟨A, cap, _, _, _, h3⟩ := h
  intro f hf
  obtain ⟨i, hi⟩ := List.getElem?_of_mem hf
  obtain ⟨_, _, _, _, _, _, _, _, hp, _⟩ := h3 i f hi
  exact hp

/-! ### Lists of the call's own, whose elements lie in memory of the call's own -/
section
variable {α : Type} {sz B M : Nat} {e ei : TypeId} {R R' : World → List Value → α → Prop} {w w' : World} {v u : Value} {xs ys : List α}
theorem OwnL.typed (h : OwnL sz B e R w v xs) : ∀ k, v.ownBlock = some k → ∃ arr, w.heap[k]? = some (.cells arr e (0, 0)) := by
  intro k hk
  obtain ⟨css, h1, h2, h3, h4⟩ := h
  rcases h4 with ⟨rfl, _⟩ | ⟨g, cap, cur, rfl, a2, a3, _⟩
  · cases hk
  · simp only [Value.ownBlock, Option.some.injEq] at hk
    subst hk
    exact ⟨cur, a3⟩
theorem OwnL.imp (h : OwnL sz B e R w v xs) (hR : ∀ cs x, R w cs x → R' w cs x) : OwnL sz B e R' w v xs := by
  obtain ⟨css, h1, h2, h3⟩ := h
  exact ⟨css, h1, fun i cs x hi hx => ⟨(h2 i cs x hi hx).1, hR _ _ (h2 i cs x hi hx).2⟩, h3⟩
theorem OwnL.base {B' : Nat} (h : OwnL sz B e R w v xs) (hB : B' ≤ B) : OwnL sz B' e R w v xs := by
  obtain ⟨css, h1, h2, h3, h4⟩ := h
  refine ⟨css, h1, h2, h3, ?_⟩
  rcases h4 with h4 | ⟨g, cap, cur, a1, a2, a3⟩
  · exact .inl h4
  · exact .inr ⟨g, cap, cur, a1, Nat.le_trans hB a2, a3⟩
/-- What a write into a row of another type does not turn. -/
def Keeps (e : TypeId) (R : World → List Value → α → Prop) : Prop :=
  ∀ (w w' : World) (row : Option Nat) (cs : List Value) (x : α), R w cs x → w.grownBy w' row → (∀ k, row = some k → ∃ arr, w.heap[k]? = some (.cells arr e (0, 0))) → R w' cs x
theorem OwnL.kept {row : Option Nat} (h : OwnL sz B ei R w v xs) (hR : ∀ cs x, R w cs x → R w' cs x) (hg : w.grownBy w' row) (ht : ∀ k, row = some k → ∃ arr, w.heap[k]? = some (.cells arr e (0, 0))) (hne : ei ≠ e) : OwnL sz B ei R w' v xs := by
  have hty := h.typed
  obtain ⟨css, h1, h2, h3⟩ := h
  refine ⟨css, h1, fun i cs x hi hx => ⟨(h2 i cs x hi hx).1, hR _ _ (h2 i cs x hi hx).2⟩, h3.kept hg ?_⟩
  cases hv : v.ownBlock with
  | none => exact .inl rfl
  | some k =>
    right
    intro hr
    obtain ⟨arr, h5⟩ := hty k hv
    obtain ⟨arr', h6⟩ := ht k hr.symm
    rw [h5] at h6
    injection h6 with h6
    injection h6 with _ h7
    exact hne h7
/-- APPEND, elements that Keep. -/
theorem wpList_append_L {P : Program} {ops : Array Oper} {rest : List Oper} {o : Oper} {a : Act} {Q : Exit → Act → World → Prop} (hgd : Region.wanted o (yielded ops a.tmps) = true) (s x : Operand) (t : TypeId)
    (ho : o.op = .call { callee := .builtin .append, args := #[s, x], argTypes := #[t, t] }) (ht : P.underlying t = some (.slice e)) (z : Value) (bytes : Nat)
    (hinfo : (P.info? e).map (fun i => (i.zero, i.size, i.bytes)) = some (some z, sz, bytes)) (hzs : z.cells.size = sz) (hsz : 0 < sz)
    (hR1 : ∀ w cs x, R w cs x → ∀ u ∈ cs, u.oneCell' = true) (hRk : Keeps e R)
    (hs : a.eval s = v) (hx : a.eval x = u) (hown : OwnL sz B e R w v xs) (hu : SlRep sz M R w u ys) (h63 : xs.length + ys.length ≤ maxLen) (hbytes : (xs.length + ys.length) * bytes ≤ 140737488355328) (hbase : B ≤ w.heap.size)
    (h : ∀ v' w', OwnL sz B e R w' v' (xs ++ ys) → w.grownBy w' v.ownBlock → wpList P ops Q rest (a.put o.dst v') w') : wpList P ops Q (o :: rest) a w := by
  obtain ⟨i, hi, hz, hs', hb⟩ := info_parts hinfo
  obtain ⟨v', w', hr, h2, h3⟩ := run_append_list t o.type i z bytes ht hi hz hs' hb hzs hsz hR1 (fun w' cs x hr hg => hRk w w' _ cs x hr hg hown.typed) hown hu h63 hbytes hbase
  refine wpList_step fun K hK => ?_
  rw [if_pos hgd]
  unfold Oper.wp
  have hrun : (execOp a.eval o).run P w = .ok (.value v') w' := by
    unfold execOp
    simp only [ho, resolve, invoke, builtin, Sem.run_bind, Sem.run_pure, Result.andThen_ok, List.map_toArray, List.map_cons, List.map_nil, hs, hx, hr]
  rw [hrun]
  exact hK _ _ (h v' w' h2 h3)
end

/-- Tuples, facts in memory of the call's own: B: from this block on. -/
def RTo (B : Nat) (ev : TypeId) (w : World) (cs : List Value) (xs : List V) : Prop := ∃ v, cs = [v] ∧ OwnV B ev w v xs
def RGo (B : Nat) (ev : TypeId) (w : World) (cs : List Value) (x : Fc) : Prop := ∃ v, cs = [.string x.p, v] ∧ x.p.size ≤ 140737488351232 ∧ OwnV B ev w v x.a
section
variable {B M : Nat} {e ev : TypeId} {w w' : World} {v u : Value}
theorem RTo.stays : Stays (RTo B ev) := fun _ _ _ _ hf ⟨v, h1, h2⟩ => ⟨v, h1, h2.fut RV.stays hf⟩
theorem RGo.stays : Stays (RGo B ev) := fun _ _ _ _ hf ⟨v, h1, h2, h3⟩ => ⟨v, h1, h2, h3.fut RV.stays hf⟩
theorem RTo.keeps (hne : ev ≠ e) : Keeps e (RTo B ev) := fun w w' row cs x ⟨v, h1, h2⟩ hg ht => ⟨v, h1, h2.kept (fun _ _ h => h) hg ht hne⟩
theorem RGo.keeps (hne : ev ≠ e) : Keeps e (RGo B ev) := fun w w' row cs x ⟨v, h1, h2, h3⟩ hg ht => ⟨v, h1, h2, h3.kept (fun _ _ h => h) hg ht hne⟩
theorem slice_one {A : Option Addr} {n c : Nat} : (Value.slice A n c).oneCell' = true := rfl
theorem RTo.one : ∀ (w : World) cs x, RTo B ev w cs x → ∀ u ∈ cs, u.oneCell' = true := fun w cs x ⟨v, h1, h2⟩ u hu => by
  obtain ⟨A, cap, rfl, _⟩ := h2.vals.form
  subst h1
  simp only [List.mem_singleton] at hu
  subst hu; rfl
theorem RGo.one : ∀ (w : World) cs x, RGo B ev w cs x → ∀ u ∈ cs, u.oneCell' = true := fun w cs x ⟨v, h1, _, h2⟩ u hu => by
  obtain ⟨A, cap, rfl, _⟩ := h2.vals.form
  subst h1
  simp only [List.mem_cons, List.not_mem_nil, or_false] at hu
  rcases hu with rfl | rfl <;> rfl
theorem OwnT.tups {ts : List (List V)} (h : OwnL 1 B e (RTo B ev) w v ts) : Tups w v ts :=
  (h.rep.imp fun cs x ⟨v, h1, h2⟩ => (⟨v, h1, h2.vals⟩ : RT w cs x)).more (by unfold maxLen; omega)
theorem OwnG.facs {fs : List Fc} (h : OwnL 2 B e (RGo B ev) w v fs) : FacsG w v fs :=
  (h.rep.imp fun cs x ⟨v, h1, h2, h3⟩ => (⟨v, h1, h2, h3.vals⟩ : RG w cs x)).more (by unfold maxLen; omega)
/-- What was there is told of as it was, whatever is written into rows of the call's own. -/
theorem const_keeps {α : Type} {R : World → List Value → α → Prop} (w0 : World) : Keeps e (fun _ => R w0) := fun _ _ _ _ _ h _ _ => h
theorem RT.one : ∀ (w : World) cs x, RT w cs x → ∀ u ∈ cs, u.oneCell' = true := fun w cs x ⟨v, h1, h2⟩ u hu => by
  obtain ⟨A, cap, rfl, _⟩ := h2.form
  subst h1
  simp only [List.mem_singleton] at hu
  subst hu; rfl
theorem RG.one : ∀ (w : World) cs x, RG w cs x → ∀ u ∈ cs, u.oneCell' = true := fun w cs x ⟨v, h1, _, h2⟩ u hu => by
  obtain ⟨A, cap, rfl, _⟩ := h2.form
  subst h1
  simp only [List.mem_cons, List.not_mem_nil, or_false] at hu
  rcases hu with rfl | rfl <;> rfl
end

def partsT : List (List V) → Nat
  | [] => 0
  | t :: r => 1 + t.length + partsT r
theorem partsT_take (ts : List (List V)) (k : Nat) (hk : k < ts.length) : partsT (ts.take (k + 1)) = partsT (ts.take k) + (1 + (ts[k]).length) := by
  induction ts generalizing k with
  | nil => simp at hk
  | cons f r ih =>
    cases k with
    | zero => simp [partsT]
    | succ k => simp only [List.take_succ_cons, partsT, List.getElem_cons_succ]; rw [ih k (by simpa using hk)]; omega
theorem partsT_le (ts : List (List V)) (k : Nat) : partsT (ts.take k) ≤ partsT ts := by
  induction ts generalizing k with
  | nil => simp
  | cons f r ih =>
    cases k with
    | zero => simp [partsT]
    | succ k => simp only [List.take_succ_cons, partsT]; have := ih k; omega
theorem partsT_len (ts : List (List V)) : ts.length ≤ partsT ts := by
  induction ts with
  | nil => simp
  | cons f r ih => simp only [List.length_cons, partsT]; omega
theorem partsT_mem {ts : List (List V)} {t : List V} (h : t ∈ ts) : t.length ≤ partsT ts := by
  induction ts with
  | nil => simp at h
  | cons f r ih =>
    simp only [partsT]
    rcases List.mem_cons.1 h with rfl | h
    · omega
    · have := ih h; omega
end Go.Proofs.Ytcpphabehpbmlaa
/- Append to a list of the call's own: and the block is the old one or a new one. Generic; no program. -/
namespace Go.Proofs.Ytcpphabehpbmlaa
open Go.RowKit
set_option linter.unusedSimpArgs false
set_option linter.unusedVariables false

/-- The block is that of v, or a new one. -/
def SameOrNew (w : World) (v v' : Value) : Prop := v'.ownBlock = v.ownBlock ∨ ∀ k, v'.ownBlock = some k → w.heap.size ≤ k
theorem append_block {P : Program} {w w' : World} {v' : Value} (base : Nat) (t ty e : TypeId) (i : TypeInfo) (z : Value) (size bytes : Nat) (ht : P.underlying t = some (.slice e)) (hi : P.info? e = some i) (hz : i.zero = some z)
    (hsize : i.size = size) (hby : i.bytes = bytes) (hzs : z.cells.size = size) (hsz : 0 < size)
    (v : Value) (n : Nat) (xs : List Value) (hown : w.ownsRow base e size v n xs)
    (a : Addr) (m c : Nat) (news : List Value) (hl : news.length = m * size) (hnews : ∀ j u, news[j]? = some u → w.cell? (a.add j) = some u) (h1 : ∀ u ∈ news, u.oneCell' = true)
    (h63 : n + m ≤ maxLen) (hbytes : (n + m) * bytes ≤ 140737488355328) (hbase : base ≤ w.heap.size)
    (hr : (Builtin.append_ #[t, t] ty #[v, .slice (some a) m c]).run P w = .ok v' w') : SameOrNew w v v' := by
  subst hsize
  subst hby
  rcases hown.2 with ⟨rfl, rfl⟩ | ⟨g, cap, cur, rfl, hbg, hg, hnc, hcm, hcs, htake⟩
  · have hx : xs = [] := List.eq_nil_of_length_eq_zero (by simpa using hown.1)
    subst hx
    obtain ⟨v2, w2, r1, r2, _, _⟩ := run_append_own (P := P) (w := w) w.heap.size t ty e i z i.size i.bytes ht hi hz rfl rfl hzs hsz (.slice none 0 0) 0 [] (World.ownsRow_nil w _ e _) a m c news hl hnews h1 h63 hbytes (Nat.le_refl _)
    rw [hr] at r1
    injection r1 with e1 e2
    subst e1
    exact .inr fun k hk => (r2.lt k hk).1
  · by_cases hroom : n + m ≤ cap
    · have hfit : n * i.size + news.length ≤ cur.size := by rw [hl, hcs, ← Nat.add_mul]; exact Nat.mul_le_mul_right _ hroom
      have r1 := run_append_room (P := P) w t ty e i ht hi g n cap cur hg a m c news hl hnews h1 hroom hfit
      rw [hr] at r1
      injection r1 with e1 e2
      subst e1
      exact .inl rfl
    · have holds : ∀ j u, xs[j]? = some u → w.cell? ((⟨g, 0, none⟩ : Addr).add j) = some u := hown.cells (g := g) rfl
      have hsmall : n + m ≤ 9223372036854775807 := by simp only [maxLen] at h63; omega
      have r1 := run_append_grow (P := P) w t ty e i z ht hi hz ⟨g, 0, none⟩ n cap xs hown.1 holds a m c news hl hnews (by omega) (by omega) (growslice_fits (by omega) hbytes)
      rw [hr] at r1
      injection r1 with e1 e2
      subst e1
      exact .inr fun k hk => by
        have h9 : w.heap.size = k := by simpa [Value.ownBlock] using hk
        omega
section
variable {α : Type} {sz B M : Nat} {e : TypeId} {R : World → List Value → α → Prop} {w w' : World} {v u : Value} {xs ys : List α}
/-- APPEND, and whose the block is. -/
theorem run_append_listB {P : Program} (t ty : TypeId) (i : TypeInfo) (z : Value) (bytes : Nat) (ht : P.underlying t = some (.slice e)) (hi : P.info? e = some i) (hz : i.zero = some z) (hsize : i.size = sz) (hby : i.bytes = bytes) (hzs : z.cells.size = sz) (hsz : 0 < sz)
    (hR1 : ∀ w cs x, R w cs x → ∀ u ∈ cs, u.oneCell' = true) (hRk : ∀ w' cs (x : α), R w cs x → w.grownBy w' v.ownBlock → R w' cs x)
    (h : OwnL sz B e R w v xs) (hu : SlRep sz M R w u ys) (h63 : xs.length + ys.length ≤ maxLen) (hbytes : (xs.length + ys.length) * bytes ≤ 140737488355328) (hbase : B ≤ w.heap.size) :
    ∃ v' w', (Builtin.append_ #[t, t] ty #[v, u]).run P w = .ok v' w' ∧ OwnL sz B e R w' v' (xs ++ ys) ∧ w.grownBy w' v.ownBlock ∧ SameOrNew w v v' := by
  have h0 := h
  obtain ⟨css, h1, h2, h3⟩ := h
  obtain ⟨A, cap, rfl, hl, hm, hx⟩ := hu
  have hgrow : ∀ w', w.grownBy w' v.ownBlock → ∀ (i : Nat) (cs : List Value) (x : α), css[i]? = some cs → xs[i]? = some x → cs.length = sz ∧ R w' cs x := fun w' hg i cs x hi hx => ⟨(h2 i cs x hi hx).1, hRk _ _ _ (h2 i cs x hi hx).2 hg⟩
  cases A with
  | none =>
    have hy : ys = [] := by
      cases ys with
      | nil => rfl
      | cons y r => obtain ⟨_, _, _, hA, _⟩ := hx 0 y rfl; cases hA
    subst hy
    obtain ⟨A', cap', hv, hl', _⟩ := h0.rep.form
    subst hv
    exact ⟨_, w, run_append_none t ty i ht hi A' _ cap' cap hl' w, by rw [List.append_nil]; exact h0, World.grownBy.refl w _, .inl rfl⟩
  | some a =>
    obtain ⟨news, hnl, hnews⟩ := exists_list (p := fun k (cs : List Value) => ∃ y, ys[k]? = some y ∧ cs.length = sz ∧ R w cs y ∧ ∀ j c, cs[j]? = some c → w.cell? (a.add (k * sz + j)) = some c) ys.length fun k hk => by
      obtain ⟨b, off, cs, hA, b1, b2, b3⟩ := hx k _ (List.getElem?_eq_getElem hk)
      injection hA with hA
      subst hA
      refine ⟨cs, _, List.getElem?_eq_getElem hk, b1, b3, fun j c hj => ?_⟩
      rw [← b2 j c hj]
      rw [Addr.add_lit]
    have hs : ∀ (i : Nat) (cs : List Value), news[i]? = some cs → cs.length = sz := fun i cs hi => by obtain ⟨y, _, b1, _⟩ := hnews i cs hi; exact b1
    have hcells : ∀ j u, news.flatten[j]? = some u → w.cell? (a.add j) = some u := fun j u hj => by
      have hjl : j < news.length * sz := by
        have := (List.getElem?_eq_some_iff.1 hj).1
        rwa [flatten_len hs] at this
      have hk : j / sz < news.length := Nat.div_lt_of_lt_mul (by rw [Nat.mul_comm]; exact hjl)
      obtain ⟨y, _, b1, _, b2⟩ := hnews (j / sz) _ (List.getElem?_eq_getElem hk)
      have hr : j % sz < (news[j / sz]).length := by rw [b1]; exact Nat.mod_lt _ hsz
      have e1 := flatten_at hs (j / sz) (j % sz) _ _ (List.getElem?_eq_getElem hk) (List.getElem?_eq_getElem hr)
      have e2 := b2 (j % sz) _ (List.getElem?_eq_getElem hr)
      rw [show j / sz * sz + j % sz = j by rw [Nat.mul_comm]; exact Nat.div_add_mod j sz] at e1 e2
      rw [hj] at e1
      rw [e2, ← e1]
    have hone : ∀ u ∈ news.flatten, u.oneCell' = true := fun u hu => by
      obtain ⟨cs, hc, hu⟩ := List.mem_flatten.1 hu
      obtain ⟨k, hk⟩ := List.getElem?_of_mem hc
      obtain ⟨y, _, _, b3, _⟩ := hnews k cs hk
      exact hR1 _ _ _ b3 u hu
    obtain ⟨v', w', r1, r2, r3, _⟩ := run_append_own (P := P) (w := w) B t ty e i z sz bytes ht hi hz hsize hby hzs hsz v xs.length css.flatten h3 a ys.length cap news.flatten (by rw [flatten_len hs, hnl]) hcells hone h63 hbytes hbase
    have r4 := append_block B t ty e i z sz bytes ht hi hz hsize hby hzs hsz v xs.length css.flatten h3 a ys.length cap news.flatten (by rw [flatten_len hs, hnl]) hcells hone h63 hbytes hbase r1
    refine ⟨v', w', r1, ⟨css ++ news, by simp [h1, hnl], fun k cs x hk hx' => ?_, by rw [List.flatten_append, List.length_append]; exact r2⟩, r3, r4⟩
    rcases Nat.lt_or_ge k css.length with h' | h'
    · rw [List.getElem?_append_left h'] at hk
      rw [List.getElem?_append_left (by omega)] at hx'
      exact hgrow w' r3 k cs x hk hx'
    · rw [List.getElem?_append_right h'] at hk
      rw [List.getElem?_append_right (by omega)] at hx'
      obtain ⟨y, e1, b1, b3, _⟩ := hnews _ _ hk
      rw [h1, hx'] at e1
      obtain rfl := Option.some.inj e1
      exact ⟨b1, hRk _ _ _ b3 r3⟩
theorem wpList_append_LB {P : Program} {ops : Array Oper} {rest : List Oper} {o : Oper} {a : Act} {Q : Exit → Act → World → Prop} (hgd : Region.wanted o (yielded ops a.tmps) = true) (s x : Operand) (t : TypeId)
    (ho : o.op = .call { callee := .builtin .append, args := #[s, x], argTypes := #[t, t] }) (ht : P.underlying t = some (.slice e)) (z : Value) (bytes : Nat)
    (hinfo : (P.info? e).map (fun i => (i.zero, i.size, i.bytes)) = some (some z, sz, bytes)) (hzs : z.cells.size = sz) (hsz : 0 < sz)
    (hR1 : ∀ w cs x, R w cs x → ∀ u ∈ cs, u.oneCell' = true) (hRk : Keeps e R)
    (hs : a.eval s = v) (hx : a.eval x = u) (hown : OwnL sz B e R w v xs) (hu : SlRep sz M R w u ys) (h63 : xs.length + ys.length ≤ maxLen) (hbytes : (xs.length + ys.length) * bytes ≤ 140737488355328) (hbase : B ≤ w.heap.size)
    (h : ∀ v' w', OwnL sz B e R w' v' (xs ++ ys) → w.grownBy w' v.ownBlock → SameOrNew w v v' → wpList P ops Q rest (a.put o.dst v') w') : wpList P ops Q (o :: rest) a w := by
  obtain ⟨i, hi, hz, hs', hb⟩ := info_parts hinfo
  obtain ⟨v', w', hr, h2, h3, h4⟩ := run_append_listB t o.type i z bytes ht hi hz hs' hb hzs hsz hR1 (fun w' cs x hr hg => hRk w w' _ cs x hr hg hown.typed) hown hu h63 hbytes hbase
  refine wpList_step fun K hK => ?_
  rw [if_pos hgd]
  unfold Oper.wp
  have hrun : (execOp a.eval o).run P w = .ok (.value v') w' := by
    unfold execOp
    simp only [ho, resolve, invoke, builtin, Sem.run_bind, Sem.run_pure, Result.andThen_ok, List.map_toArray, List.map_cons, List.map_nil, hs, hx, hr]
  rw [hrun]
  exact hK _ _ (h v' w' h2 h3 h4)
end
end Go.Proofs.Ytcpphabehpbmlaa
/- How many parts an expression has: ExprParts. -/
namespace Go.Proofs.Ytcpphabehpbmlaa
open Go.RowKit
set_option linter.unusedSimpArgs false
set_option linter.unusedVariables false

def Ex.kids : Ex → List Ex
  | .mk _ _ ks => ks
mutual
def Ex.size : Ex → Nat
  | .mk _ _ ks => 1 + Ex.sizes ks
def Ex.sizes : List Ex → Nat
  | [] => 0
  | k :: r => k.size + Ex.sizes r
end
mutual
def Ex.depth : Ex → Nat
  | .mk _ _ ks => 1 + Ex.depths ks
def Ex.depths : List Ex → Nat
  | [] => 0
  | k :: r => max k.depth (Ex.depths r)
end
theorem sizes_append : ∀ a b : List Ex, Ex.sizes (a ++ b) = Ex.sizes a + Ex.sizes b
  | [], b => by simp [Ex.sizes]
  | x :: a, b => by rw [List.cons_append, Ex.sizes, Ex.sizes, sizes_append a b]; omega
theorem depths_append : ∀ a b : List Ex, Ex.depths (a ++ b) = max (Ex.depths a) (Ex.depths b)
  | [], b => by simp [Ex.depths]
  | x :: a, b => by rw [List.cons_append, Ex.depths, Ex.depths, depths_append a b]; omega
theorem sizes_level : ∀ L : List Ex, Ex.sizes L = L.length + Ex.sizes (L.flatMap Ex.kids)
  | [] => by simp [Ex.sizes]
  | x :: r => by
    obtain ⟨op, t, ks⟩ := x
    rw [List.flatMap_cons, sizes_append, Ex.sizes, sizes_level r, Ex.size, List.length_cons]
    show 1 + Ex.sizes ks + _ = _ + (Ex.sizes ks + _)
    omega
theorem depths_level : ∀ L : List Ex, L ≠ [] → Ex.depths L = 1 + Ex.depths (L.flatMap Ex.kids)
  | [], h => absurd rfl h
  | x :: r, _ => by
    obtain ⟨op, t, ks⟩ := x
    rw [List.flatMap_cons, depths_append, Ex.depths, Ex.depth]
    show max (1 + Ex.depths ks) (Ex.depths r) = 1 + max (Ex.depths ks) _
    by_cases hr : r = []
    · subst hr; simp [Ex.depths]
    · rw [depths_level r hr]; omega
theorem ex_form {n : Nat} {w : World} {cs : List Value} {x : Ex} (h : RE n w cs x) : ∃ m op t ks A c, n = m + 1 ∧ x = .mk op t ks ∧ cs = [.int .i8 op, .string t.v, .int .i8 t.x.k, .int .i64 t.x.n, .string t.x.s, .slice A ks.length c] ∧ ks.length ≤ c ∧ c ≤ 1759218604441 ∧ SlRep 6 1759218604441 (RE m) w (.slice A ks.length c) ks := by
  cases n with
  | zero => exact h.elim
  | succ m =>
    obtain ⟨op, t, ks⟩ := x
    obtain ⟨kv, h1, h2, h3, h4⟩ := h
    obtain ⟨A, c, rfl, h5, h6⟩ := h4.form
    exact ⟨m, op, t, ks, A, c, rfl, rfl, h1, h5, h6, h4⟩
/-- Expressions of a list of the call's own: their trees lie in the world w0. -/
def RX0 (n : Nat) (w0 : World) (_ : World) (cs : List Value) (x : Ex) : Prop := RE n w0 cs x
theorem RX0.stays {n : Nat} {w0 : World} : Stays (RX0 n w0) := fun _ _ _ _ _ h => h
theorem RX0.keeps {n : Nat} {w0 : World} {e : TypeId} : Keeps e (RX0 n w0) := fun _ _ _ _ _ h _ _ => h
theorem RX0.one {n : Nat} {w0 : World} : ∀ (w : World) cs x, RX0 n w0 w cs x → ∀ u ∈ cs, u.oneCell' = true := fun w cs x h u hu => by
  obtain ⟨m, op, t, ks, A, c, _, _, rfl, _⟩ := ex_form h
  simp only [List.mem_cons, List.not_mem_nil, or_false] at hu
  rcases hu with rfl | rfl | rfl | rfl | rfl | rfl <;> rfl
theorem infoEx : (Try.prog.info? 59).map (fun i => (i.zero, i.size, i.bytes)) = some (some (.agg #[.int .i8 0, .string ⟨#[]⟩, .int .i8 0, .int .i64 0, .string ⟨#[]⟩, .slice none 0 0]), 6, 80) := by kernel_rfl
theorem exOne {n : Nat} {w0 w : World} {cs : List Value} {x : Ex} (h : RE n w0 cs x) (e : TypeId) : SlRep 6 1 (RX0 n w0) (w.alloc (.cells cs.toArray e)) (.slice (some ⟨w.heap.size, 0, none⟩) 1 1) [x] :=
  ⟨_, 1, rfl, Nat.le_refl _, Nat.le_refl _, fun i y hy => by
    have hi : i = 0 := by
      have := (List.getElem?_eq_some_iff.1 hy).1
      simp at this; omega
    subst hi
    simp at hy
    subst hy
    have hl : cs.length = 6 := by obtain ⟨m, op, t, ks, A, c, _, _, rfl, _⟩ := ex_form h; rfl
    refine ⟨w.heap.size, 0, cs, rfl, hl, fun j c hj => ?_, h⟩
    rw [show 0 + (0 * 6 + j) = j by omega]
    have h0 := heap_alloc_new w (.cells cs.toArray e)
    simp only [World.cell?, h0]
    simpa using hj⟩
/-- One of a list of expressions, its cells. -/
theorem ex_at {M n : Nat} {w w0 : World} {A : Option Addr} {l cap : Nat} {xs : List Ex} (h : SlRep 6 M (RX0 n w0) w (.slice A l cap) xs) {k : Nat} (hk : k < xs.length) :
    ∃ b off m op t ks A' c, A = some ⟨b, off, none⟩ ∧ n = m + 1 ∧ xs[k] = .mk op t ks ∧ w.cell? ⟨b, off + k * 6, none⟩ = some (.int .i8 op) ∧ w.cell? ⟨b, off + k * 6 + 1, none⟩ = some (.string t.v) ∧ w.cell? ⟨b, off + k * 6 + 2, none⟩ = some (.int .i8 t.x.k) ∧
      w.cell? ⟨b, off + k * 6 + 3, none⟩ = some (.int .i64 t.x.n) ∧ w.cell? ⟨b, off + k * 6 + 4, none⟩ = some (.string t.x.s) ∧ w.cell? ⟨b, off + k * 6 + 5, none⟩ = some (.slice A' ks.length c) ∧ ks.length ≤ c ∧ c ≤ 1759218604441 ∧ SlRep 6 1759218604441 (RE m) w0 (.slice A' ks.length c) ks ∧
      RE n w0 [.int .i8 op, .string t.v, .int .i8 t.x.k, .int .i64 t.x.n, .string t.x.s, .slice A' ks.length c] xs[k] := by
  obtain ⟨A1, cap1, hv, _, _, h3⟩ := h
  obtain ⟨b, off, cs, hA, hl, hc, hr⟩ := h3 k _ (List.getElem?_eq_getElem hk)
  injection hv with hv _ _
  obtain ⟨m, op, t, ks, A', c, h4, h5, rfl, h6, h7, h8⟩ := ex_form hr
  exact ⟨b, off, m, op, t, ks, A', c, hv.trans hA, h4, h5, hc 0 _ rfl, hc 1 _ rfl, hc 2 _ rfl, hc 3 _ rfl, hc 4 _ rfl, hc 5 _ rfl, h6, h7, h8, hr⟩
theorem flat_take {L : List Ex} {i : Nat} (hi : i < L.length) : (L.take (i + 1)).flatMap Ex.kids = (L.take i).flatMap Ex.kids ++ L[i].kids := by
  rw [List.take_succ_eq_append_getElem hi, List.flatMap_append]; simp
theorem own_ex1 {n : Nat} {w0 w : World} {cs : List Value} {x : Ex} {B : Nat} (h : RE n w0 cs x) (e : TypeId) (hB : B ≤ w.heap.size) : OwnL 6 B e (RX0 n w0) (w.alloc (.cells cs.toArray e)) (.slice (some ⟨w.heap.size, 0, none⟩) 1 1) [x] := by
  have hl : cs.length = 6 := by obtain ⟨m, op, t, ks, A, c, _, _, rfl, _⟩ := ex_form h; rfl
  refine ⟨[cs], rfl, fun i ds z hi hz => ?_, ?_⟩
  · have hil := (List.getElem?_eq_some_iff.1 hi).1
    simp at hil
    subst hil
    simp at hi hz
    subst hi; subst hz
    exact ⟨hl, h⟩
  · refine ⟨by simp [hl], .inr ⟨w.heap.size, 1, _, rfl, hB, heap_alloc_new w _, Nat.le_refl _, by unfold maxLen; omega, by simp [hl], ?_⟩⟩
    simp [hl]
    exact List.take_of_length_le (by omega)
set_option maxHeartbeats 2000000 in
set_option maxRecDepth 100000 in
theorem exprParts_any {n : Nat} (x : Ex) (op : Int) (t : Tm) (kv : Value) (left : Nat) (w : World) (h : RE n w [.int .i8 op, .string t.v, .int .i8 t.x.k, .int .i64 t.x.n, .string t.x.s, kv] x) (hleft : left ≤ 1048576) :
    Calls Try.prog 40 #[.agg #[.int .i8 op, .string t.v, .int .i8 t.x.k, .int .i64 t.x.n, .string t.x.s, kv], .int .i64 left] w fun e w' => ∃ r : Nat, e = .returned (.int .i64 r) ∧ (r = left + 1 ∨ (r = x.size ∧ r ≤ left ∧ x.depth ≤ 65537)) ∧ Fut w w' := by
  obtain ⟨m, op', t', ks, A, c, hn, hx, hcs, hkc, hcm, hks⟩ := ex_form h
  injection hcs with q0 hcs; injection hcs with q1 hcs; injection hcs with q2 hcs; injection hcs with q3 hcs; injection hcs with q4 hcs; injection hcs with q5 _
  subst q5
  have H := Lib.hid h
  clear q0 q1 q2 q3 q4 h hx hks hn
  go_enter Try.func40, Try.ntmps40
  go_wp2_with fail
  have hO0 := own_ex1 (w := w.alloc (.cells #[.int .i8 op, .string t.v, .int .i8 t.x.k, .int .i64 t.x.n, .string t.x.s, .slice A ks.length c] 59)) (B := w.heap.size) H.out 59 (by simp)
  have hs0 : (w.alloc (.cells #[.int .i8 op, .string t.v, .int .i8 t.x.k, .int .i64 t.x.n, .string t.x.s, .slice A ks.length c] 59)).heap.size = w.heap.size + 1 := by simp
  rw [hs0] at hO0
  have F0 := (Fut.alloc w (.cells #[.int .i8 op, .string t.v, .int .i8 t.x.k, .int .i64 t.x.n, .string t.x.s, .slice A ks.length c] 59)).trans (Fut.alloc _ (.cells #[.int .i8 op, .string t.v, .int .i8 t.x.k, .int .i64 t.x.n, .string t.x.s, .slice A ks.length c] 59))
  have HO0 := Lib.hid hO0
  replace F0 := Lib.hid F0
  clear hO0 hs0
  go_loopw [5, 6, 7] (fun nn lv dp wr => ∃ (q d : Nat) (L : List Ex), q ≤ left ∧ q + L.length ≤ left + 1 ∧ nn = .int .i64 q ∧ dp = .int .i64 d ∧ d ≤ 65537 ∧ Hid (q + Ex.sizes L = x.size) ∧ Hid (x.depth = d + Ex.depths L) ∧ Hid (OwnL 6 w.heap.size 59 (RX0 n w) wr lv L) ∧ Hid (Fut w wr)) (fun nn _ _ _ => left - (intOf nn).toNat)
  case atStart => exact ⟨0, 0, [x], Nat.zero_le _, by simp, rfl, rfl, by omega, Lib.hid (by simp [Ex.sizes]), Lib.hid (by simp [Ex.depths]), HO0, F0⟩
  case round =>
    obtain ⟨q, d, L, hq, hqL, rfl, rfl, hd, hsz, hdp, hL, hF⟩ := hrel
    obtain ⟨wo, hwo⟩ : ∃ y, y = wr := ⟨_, rfl⟩
    subst hwo
    have hL0 := hL.out
    obtain ⟨AL, cL, hlv, hcl, hcm9⟩ := hL0.rep.form
    rw [hlv] at hL0
    rw [hlv]
    have HL := Lib.hid hL0
    clear hL0 hL
    by_cases hne : L.length = 0
    · have hLn : L = [] := List.length_eq_zero_iff.1 hne
      subst hLn
      have r1 : q = x.size := by have := hsz.out; simpa [Ex.sizes] using this
      have r2 : x.depth ≤ 65537 := by have := hdp.out; simp [Ex.depths] at this; omega
      go_wp2
      go_ret
      exact ⟨q, rfl, .inr ⟨r1, hq, r2⟩, hF.out⟩
    · have hpos : 0 < L.length := by omega
      have hposI : (0 : Int) < L.length := by omega
      have hlw : IntKind.i64.wrap ((left : Int) + 1) = ((left + 1 : Nat) : Int) := by rw [IntKind.wrap_i64]; omega
      by_cases hov : q + L.length > left
      · have hovI : ((q : Int) + L.length) > left := by omega
        go_wp2
        go_ret
        exact ⟨left + 1, by first | rfl | simp, .inl rfl, hF.out⟩
      by_cases hdo : d > 65536
      · have hovI : ¬ ((q : Int) + L.length) > left := by omega
        have hdI : (d : Int) > 65536 := by omega
        go_wp2
        go_ret
        exact ⟨left + 1, by first | rfl | simp, .inl rfl, hF.out⟩
      have hovI : ¬ ((q : Int) + L.length) > left := by omega
      have hdI : ¬ (d : Int) > 65536 := by omega
      have hsL := sizes_level L
      have hdL := depths_level L (fun e => hne (by rw [e]; rfl))
      have hsz' := Lib.hid (show q + L.length + Ex.sizes (L.flatMap Ex.kids) = x.size by have := hsz.out; omega)
      have hdp' := Lib.hid (show x.depth = d + 1 + Ex.depths (L.flatMap Ex.kids) by have := hdp.out; omega)
      clear hsL hdL hsz hdp
      go_wp2_with fail
      obtain ⟨q', hq'⟩ : ∃ q', q' = q + L.length := ⟨_, rfl⟩
      have hqc : ((q : Int) + L.length) = (q' : Int) := by omega
      try rw [hqc]
      have hq'l : q' ≤ left := by omega
      have hqlt := Lib.hid (show q < q' by omega)
      rw [← hq'] at hsz'
      replace hq' := Lib.hid hq'
      clear hqc hovI hov
      go_loopw [8, 9] (fun nx i wi => ∃ k : Nat, k ≤ L.length ∧ i = .int .i64 k ∧ q' + ((L.take k).flatMap Ex.kids).length ≤ left ∧ Hid (OwnL 6 wo.heap.size 59 (RX0 n w) wi nx ((L.take k).flatMap Ex.kids)) ∧ Hid (Fut wo wi)) (fun _ i _ => L.length - (intOf i).toNat)
      case atStart => exact ⟨0, Nat.zero_le _, rfl, by simpa using hq'l, Lib.hid OwnL.nil, Lib.hid (Fut.refl _)⟩
      case round =>
        obtain ⟨k, hk, rfl, hfl, hN, hFi⟩ := hrel
        obtain ⟨wi, hwi⟩ : ∃ y, y = wr := ⟨_, rfl⟩
        subst hwi
        obtain ⟨AN, cN, hnv, hcl2, hcm2⟩ := hN.out.rep.form
        have HN := Lib.hid hN.out
        rw [hnv] at HN
        rw [hnv]
        clear hN
        by_cases hlt : k < L.length
        · obtain ⟨b, off, m', op', t', ks', A', c', rfl, hn', hxk, y0, y1, y2, y3, y4, y5, hc1, hc2, hks', _⟩ := ex_at HL.out.rep hlt
          have y5i := hFi.out.cell y5
          have hmn := Lib.hid (show m' ≤ n by omega)
          clear hn'
          have hft := flat_take hlt
          have hki : L[k].kids = ks' := by rw [hxk]; rfl
          rw [hki] at hft
          have hltI : (k : Int) < L.length := by omega
          have e0 : (0 : Int) ≤ k ∧ (k : Int) < L.length := by omega
          generalize (L.take k).flatMap Ex.kids = G at *
          have hw2 : IntKind.i64.wrap ((q' : Int) + G.length) = ((q' + G.length : Nat) : Int) := by rw [IntKind.wrap_i64]; omega
          have hw3 : IntKind.i64.wrap ((q' : Int) + G.length + ks'.length) = ((q' + G.length + ks'.length : Nat) : Int) := by rw [IntKind.wrap_i64]; omega
          clear y0 y1 y2 y3 y4 hxk hki
          replace hft := Lib.hid hft
          by_cases hov2 : q' + G.length + ks'.length > left
          · have hovI2 : ((q' : Int) + G.length + ks'.length) > left := by omega
            go_wp2
            go_ret
            exact ⟨left + 1, by first | rfl | simp, .inl rfl, hF.out.trans hFi.out⟩
          · have hovI2 : ¬ ((q' : Int) + G.length + ks'.length) > left := by omega
            go_wp2_with fail
            go_loopw [8, 10] (fun nx j wj => ∃ s : Nat, s ≤ ks'.length ∧ j = .int .i64 s ∧ Hid (OwnL 6 wo.heap.size 59 (RX0 n w) wj nx (G ++ ks'.take s)) ∧ Hid (Fut wo wj)) (fun _ j _ => ks'.length - (intOf j).toNat)
            case atStart => exact ⟨0, Nat.zero_le _, rfl, Lib.hid (by rw [List.take_zero, List.append_nil]; exact HN.out), hFi⟩
            case round =>
              obtain ⟨s, hs, rfl, hM, hFj⟩ := hrel
              have y5j := hFj.out.cell y5
              by_cases hsl : s < ks'.length
              · have hkj : SlRep 6 1759218604441 (RX0 m' w) wr (.slice A' ks'.length c') ks' := (hks'.imp fun cs x h => (h : RX0 m' w w cs x)).fut RX0.stays (hF.out.trans hFj.out)
                obtain ⟨b2, off2, m2, op2, t2, ks2, A2, c2, rfl, hm2, hz2, z0, z1, z2, z3, z4, z5, _, _, _, hre⟩ := ex_at hkj hsl
                have hts : ks'.take (s + 1) = ks'.take s ++ [ks'[s]] := List.take_succ_eq_append_getElem hsl
                have hre' := RE.mono hmn.out hre
                clear hre hkj hm2 hz2
                generalize ks'[s] = z at *
                have hsI : (s : Int) < ks'.length := by omega
                have e2 : (0 : Int) ≤ s ∧ (s : Int) < ks'.length := by omega
                have hln : (G ++ ks'.take s).length = G.length + s := by rw [List.length_append, List.length_take]; omega
                have hlh := Lib.hid hln
                replace hts := Lib.hid (show G ++ ks'.take (s + 1) = (G ++ ks'.take s) ++ [z] by rw [hts, List.append_assoc])
                have hbj := hFj.out.size
                generalize G ++ ks'.take s = G2 at *
                clear hln
                go_wp2_with (first | (at_builtin; refine wpList_append_LB (R := RX0 n w) (B := wo.heap.size) (M := 1) (xs := G2) (ys := [z]) (e := 59) (by go_simp) _ _ 57 rfl Try.underlying57 (.agg #[.int .i8 0, .string ⟨#[]⟩, .int .i8 0, .int .i64 0, .string ⟨#[]⟩, .slice none 0 0]) 80 infoEx rfl (by decide) RX0.one RX0.keeps rfl rfl (hM.out.fut RX0.stays (Fut.alloc _ _)) (exOne hre' _) ?l3 ?l4 ?b3 ?k3))
                case l3 => have := hlh.out; simp [maxLen]; omega
                case l4 => have := hlh.out; first | omega | (simp; omega)
                case b3 => first | omega | (simp; omega)
                case k3 =>
                intro v' w' o' g' sn'
                have F' := Lib.hid (Fut.grown (hFj.out.trans (Fut.alloc _ _)) g' (fun y hy => (hM.out.block y hy).1))
                have o5 := Lib.hid o'
                clear o' g' sn'
                go_wp2
                go_roundw
                case rel => exact ⟨s + 1, by omega, by go_num, by rw [hts.out]; exact o5, F'⟩
                case measure => simp [intOf] <;> omega
              · obtain rfl : s = ks'.length := by omega
                rw [List.take_length] at hM
                go_wp2
                go_roundw
                case rel => exact ⟨k + 1, by omega, by go_num, by rw [hft.out, List.length_append]; omega, by rw [hft.out]; exact hM, hFj⟩
                case measure => simp [intOf] <;> omega
        · obtain rfl : k = L.length := by omega
          rw [List.take_length] at HN hfl
          have hb9 := hF.out.size
          have HN' := Lib.hid (HN.out.base hb9)
          have F9 := Lib.hid (hF.out.trans hFi.out)
          rw [List.take_length]
          generalize L.flatMap Ex.kids = G at *
          clear HN
          go_wp2
          go_roundw
          case rel => exact ⟨q', d + 1, G, hq'l, by omega, by go_num, by go_num, by omega, hsz', hdp', HN', F9⟩
          case measure => have := hqlt.out; simp [intOf] <;> omega
end Go.Proofs.Ytcpphabehpbmlaa
/- Rows of 24 numbers: as values, as keys; are two the same?; a map from rows to numbers. No program. -/
namespace Go.Proofs.Ytcpphabehpbmlaa
open Go.RowKit Go.WideMaps Go.Maps
open Go.ChangeMaps (setBlock heap_setBlock_same heap_setBlock_other)
set_option linter.unusedSimpArgs false
set_option linter.unusedVariables false

abbrev Rw := List Int
def Rw.ok (x : Rw) : Prop := x.length = 24 ∧ ∀ a ∈ x, (Lit.int .i32 a).wf = true
def Rw.cells (x : Rw) : List Value := x.map (Value.int .i32)
def Rw.val (x : Rw) : Value := .agg (Rw.cells x).toArray
def RR (_ : World) (cs : List Value) (x : Rw) : Prop := cs = Rw.cells x ∧ Rw.ok x
theorem RR.stays : Stays RR := fun _ _ _ _ _ h => h
theorem RR.one : ∀ (w : World) cs x, RR w cs x → ∀ u ∈ cs, u.oneCell' = true := fun w cs x h u hu => by
  obtain ⟨rfl, _⟩ := h
  simp only [Rw.cells, List.mem_map] at hu
  obtain ⟨a, _, rfl⟩ := hu
  rfl
theorem Rw.cells_len {x : Rw} (h : Rw.ok x) : (Rw.cells x).length = 24 := by simp [Rw.cells, h.1]
theorem ints_inj : ∀ {x y : List Int}, x.map (Value.int .i32) = y.map (Value.int .i32) → x = y
  | [], [], _ => rfl
  | [], _ :: _, h => by simp at h
  | _ :: _, [], h => by simp at h
  | a :: x, b :: y, h => by
    simp only [List.map_cons, List.cons.injEq, Value.int.injEq, true_and] at h
    rw [h.1, ints_inj h.2]
theorem Rw.val_inj {x y : Rw} (h : Rw.val x = Rw.val y) : x = y := by
  unfold Rw.val Rw.cells at h
  injection h with h
  exact ints_inj (congrArg Array.toList h)

theorem mapM_all {β : Type} {f : Nat → Option β} {g : Nat → β} : ∀ L : List Nat, (∀ i ∈ L, f i = some (g i)) → L.mapM f = some (L.map g)
  | [], _ => rfl
  | i :: L, h => by
    rw [List.mapM_cons, h i (by simp), mapM_all L fun j hj => h j (by simp [hj])]
    rfl

section
variable {P : Program} {k e : TypeId}
theorem keyOf_row (A : ArrKey P k e 24) (he : P.underlying e = some (.int .i32)) (hsz : ∃ m, P.types.size = m + 1) {x : Rw} (hx : Rw.ok x) : ∃ l, keyOf P k (Rw.val x) = some l := by
  have hkt := A.keyType hsz
  obtain ⟨m0, hm0⟩ := hsz
  have hl := Rw.cells_len hx
  refine ⟨.string (keyBytes ((List.range 24).map fun i => [Lit.int .i32 (x.getD i 0)]).flatten), ?_⟩
  unfold keyOf Rw.val
  simp only [A.hu]
  rw [if_pos (by simp [hkt, Value.formed, A.hu, A.size, hl]), hm0]
  unfold Program.keyLits
  simp only [A.hu, Value.cells]
  rw [if_pos (by rw [A.size]; exact hl), mapM_all (g := fun i => [Lit.int .i32 (x.getD i 0)])]
  · rfl
  · intro i hi
    have hi24 : i < 24 := List.mem_range.1 hi
    have hix : i < x.length := by rw [hx.1]; exact hi24
    rw [A.one, Nat.mul_one]
    have h1 : ((Rw.cells x).drop i).take 1 = [.int .i32 (x.getD i 0)] := by
      rw [List.drop_eq_getElem_cons (by rw [hl]; exact hi24)]
      simp [Rw.cells, List.getD, hix]
    rw [h1]
    have hw : (Lit.int .i32 (x.getD i 0)).wf = true := hx.2 _ (by simp [List.getD, hix])
    simp only [Program.keyLits, he]
    rw [if_pos ⟨trivial, hw⟩]

/-- The key's law. -/
theorem row_keyed (A : ArrKey P k e 24) : Keyed P k := Keyed.of_law A.law

theorem run_equal_row (A : ArrKey P k e 24) (he : P.underlying e = some (.int .i32)) (hsz : ∃ m, P.types.size = m + 1) {x y : Rw} (hx : Rw.ok x) (hy : Rw.ok y) (w : World) :
    (Op.equal k (Rw.val x) (Rw.val y)).run P w = .ok (decide (x = y)) w := by
  obtain ⟨lx, h1⟩ := keyOf_row A he hsz hx
  obtain ⟨ly, h2⟩ := keyOf_row A he hsz hy
  obtain ⟨r, hr, hiff⟩ := run_equal_deep (P := P) w (m := 2) (by omega) (A.at 0) A.wide h1 h2
  rw [hr]
  congr 1
  cases hxy : decide (x = y) with
  | true =>
    have e1 : x = y := of_decide_eq_true hxy
    subst e1
    rw [h1] at h2
    exact hiff.2 (Option.some.inj h2)
  | false =>
    cases r with
    | false => rfl
    | true =>
      have e1 := hiff.1 rfl
      subst e1
      exact absurd (Rw.val_inj ((row_keyed A).inj h1 h2)) (of_decide_eq_false hxy)
theorem run_eql_row (A : ArrKey P k e 24) (he : P.underlying e = some (.int .i32)) (hsz : ∃ m, P.types.size = m + 1) {x y : Rw} (hx : Rw.ok x) (hy : Rw.ok y) (w : World) :
    (binOp .eql k (Rw.val x) (Rw.val y)).run P w = .ok (.bool (decide (x = y))) w := by
  have h := run_equal_row A he hsz hx hy w
  unfold Rw.val at h ⊢
  simp only [binOp]
  simp [h]
theorem run_neq_row (A : ArrKey P k e 24) (he : P.underlying e = some (.int .i32)) (hsz : ∃ m, P.types.size = m + 1) {x y : Rw} (hx : Rw.ok x) (hy : Rw.ok y) (w : World) :
    (binOp .neq k (Rw.val x) (Rw.val y)).run P w = .ok (.bool (!decide (x = y))) w := by
  have h := run_equal_row A he hsz hx hy w
  unfold Rw.val at h ⊢
  simp only [binOp]
  simp [h]

/-- Block b is a map that has the number f x at the row x. -/
def MapR (w : World) (b : Nat) (f : Rw → Option Int) : Prop :=
  ∃ es clock, w.heap[b]? = some (.map es clock) ∧ (∀ e ∈ es.toList, ∃ x v, Rw.ok x ∧ e.key = Rw.val x ∧ e.val = .int .i64 v ∧ f x = some v) ∧ (∀ x v, f x = some v → ∃ e ∈ es.toList, e.key = Rw.val x)
theorem MapR.new (w : World) : MapR (w.alloc (.map #[] 0)) w.heap.size (fun _ => none) :=
  ⟨#[], 0, heap_alloc_new w _, fun e he => by simp at he, fun x v h => by cases h⟩
theorem MapR.lt {w : World} {b : Nat} {f : Rw → Option Int} (h : MapR w b f) : b < w.heap.size := by
  obtain ⟨es, c, h1, _⟩ := h
  exact (Array.getElem?_eq_some_iff.1 h1).1
theorem MapR.kept {w w' : World} {b : Nat} {f : Rw → Option Int} (h : MapR w b f) (hs : w'.heap[b]? = w.heap[b]?) : MapR w' b f := by
  obtain ⟨es, c, h1, h2⟩ := h
  exact ⟨es, c, hs.trans h1, h2⟩
theorem MapR.find {w : World} {b : Nat} {f : Rw → Option Int} {es : Array MapEntry} (A : ArrKey P k e 24) (he : P.underlying e = some (.int .i32)) (hsz : ∃ m, P.types.size = m + 1)
    (h1 : ∀ e ∈ es.toList, ∃ x v, Rw.ok x ∧ e.key = Rw.val x ∧ e.val = .int .i64 v ∧ f x = some v) (h2 : ∀ x v, f x = some v → ∃ e ∈ es.toList, e.key = Rw.val x) {x : Rw} (hx : Rw.ok x) :
    (f x = none ∧ (Instr.findKey k (Rw.val x) es.toList).run P w = .ok none w) ∨ ∃ v j, f x = some v ∧ (Instr.findKey k (Rw.val x) es.toList).run P w = .ok (some (j, .int .i64 v)) w := by
  obtain ⟨lx, hlx⟩ := keyOf_row A he hsz hx
  rcases (row_keyed A).find w hlx es.toList (fun y hy => by
    obtain ⟨z, v, hz, hk, _⟩ := h1 y hy
    rw [hk]
    exact keyOf_row A he hsz hz) with ⟨h3, h4⟩ | ⟨j, y, h3, h4, h5⟩
  · refine .inl ⟨?_, h3⟩
    cases hf : f x with
    | none => rfl
    | some v =>
      obtain ⟨y, hy, hk⟩ := h2 x v hf
      exact absurd hk (h4 y hy)
  · obtain ⟨z, v, hz, hk, hv, hf⟩ := h1 y (List.mem_of_getElem? h4)
    have e1 : z = x := Rw.val_inj (hk.symm.trans h5)
    subst e1
    exact .inr ⟨v, j, hf, by rw [h3, hv]⟩
theorem MapR.lookup {w : World} {b : Nat} {f : Rw → Option Int} {t ev : TypeId} (h : MapR w b f) (A : ArrKey P k e 24) (he : P.underlying e = some (.int .i32)) (hsz : ∃ m, P.types.size = m + 1) (ht : P.underlying t = some (.map k ev))
    (hz : ∀ w, (zeroValue ev).run P w = .ok (.int .i64 0) w) {x : Rw} (hx : Rw.ok x) :
    (Instr.lookup t (.map (some b)) (Rw.val x) true).run P w = .ok (.tuple #[.int .i64 ((f x).getD 0), .bool (f x).isSome]) w := by
  obtain ⟨es, c, hb, h1, h2⟩ := h
  obtain ⟨lx, hlx⟩ := keyOf_row A he hsz hx
  rcases MapR.find (w := w) (b := b) A he hsz h1 h2 hx with ⟨h3, h4⟩ | ⟨v, j, h3, h4⟩
  · simp [Instr.lookup, run_underlying ht, MapKept.run_getObj_map hb, (row_keyed A).check w _ hlx, h4, h3, hz, Result.andThen]
  · simp [Instr.lookup, run_underlying ht, MapKept.run_getObj_map hb, (row_keyed A).check w _ hlx, h4, h3, Result.andThen]
theorem MapR.push {w : World} {b : Nat} {f : Rw → Option Int} {t ev : TypeId} (h : MapR w b f) (A : ArrKey P k e 24) (he : P.underlying e = some (.int .i32)) (hsz : ∃ m, P.types.size = m + 1) (ht : P.underlying t = some (.map k ev))
    {x : Rw} (hx : Rw.ok x) (hn : f x = none) (v : Int) :
    ∃ w', (Instr.mapUpdate t (.map (some b)) (Rw.val x) (.int .i64 v)).run P w = .ok () w' ∧ MapR w' b (fun y => if y = x then some v else f y) ∧ w.grownBy w' (some b) := by
  obtain ⟨es, c, hb, h1, h2⟩ := h
  obtain ⟨lx, hlx⟩ := keyOf_row A he hsz hx
  rcases MapR.find (w := w) (b := b) A he hsz h1 h2 hx with ⟨_, h4⟩ | ⟨v, j, h3, h4⟩
  · refine ⟨setBlock w b (.map (es.push { key := Rw.val x, val := .int .i64 v, born := c }) (c + 1)), ?_, ⟨_, _, heap_setBlock_same hb _, ?_, ?_⟩, ⟨rfl, rfl, rfl, by simp [setBlock], fun i _ hi => heap_setBlock_other hb _ (fun e => hi (by rw [e]))⟩⟩
    · simp [Instr.mapUpdate, run_underlying ht, MapKept.run_getObj_map hb, (row_keyed A).check w _ hlx, h4, MapKept.run_setObj_map _ hb, Result.andThen, setBlock]
    · intro e he
      simp only [Array.toList_push, List.mem_append, List.mem_singleton] at he
      rcases he with he | rfl
      · obtain ⟨y, u, hy, hk, hv, hf⟩ := h1 e he
        exact ⟨y, u, hy, hk, hv, by show (if y = x then some v else f y) = some u; rw [if_neg (fun e => by subst e; rw [hn] at hf; cases hf)]; exact hf⟩
      · exact ⟨x, v, hx, rfl, rfl, if_pos rfl⟩
    · intro y u hf
      replace hf : (if y = x then some v else f y) = some u := hf
      by_cases hyx : y = x
      · subst hyx
        exact ⟨{ key := Rw.val y, val := .int .i64 v, born := c }, by rw [Array.toList_push]; exact List.mem_append_right _ (by simp), rfl⟩
      · rw [if_neg hyx] at hf
        obtain ⟨e, he, hk⟩ := h2 y u hf
        exact ⟨e, by simp [he], hk⟩
  · rw [hn] at h3; cases h3
theorem MapR.clear {w : World} {b : Nat} {f : Rw → Option Int} {t ev : TypeId} (h : MapR w b f) (ht : P.underlying t = some (.map k ev)) (ty : TypeId) :
    ∃ w', (Builtin.clear_ #[t] ty #[.map (some b)]).run P w = .ok (.tuple #[]) w' ∧ MapR w' b (fun _ => none) ∧ w.grownBy w' (some b) := by
  obtain ⟨es, c, hb, h1, h2⟩ := h
  refine ⟨setBlock w b (.map #[] c), ?_, ⟨_, _, heap_setBlock_same hb _, fun e he => by simp at he, fun x v h => by cases h⟩, ⟨rfl, rfl, rfl, by simp [setBlock], fun i _ hi => heap_setBlock_other hb _ (fun e => hi (by rw [e]))⟩⟩
  simp [Builtin.clear_, run_underlying ht, MapKept.run_getObj_map hb, MapKept.run_setObj_map _ hb, Result.andThen, setBlock]
end
end Go.Proofs.Ytcpphabehpbmlaa
