/-
  A list that the call builds by append: what it holds, whether there was room or a new array was made. Generic in the elements; no program.
-/
import Derived.Test.YtcekphjcmippoaaRep
import Derived.Laws.AppendOwn
import Derived.OwnWalk
namespace Go.Proofs.Ytcekphjcmippoaa
open Go.RowKit
set_option linter.unusedSimpArgs false
set_option linter.unusedVariables false

/-- A list of the call's own, in a block from B on (or nil). -/
def OwnL {α : Type} (sz B : Nat) (e : TypeId) (R : World → List Value → α → Prop) (w : World) (v : Value) (xs : List α) : Prop :=
  ∃ css : List (List Value), css.length = xs.length ∧ (∀ (i : Nat) (cs : List Value) (x : α), css[i]? = some cs → xs[i]? = some x → cs.length = sz ∧ R w cs x) ∧ w.ownsRow B e sz v xs.length css.flatten
section
variable {α : Type} {sz B M : Nat} {e : TypeId} {R : World → List Value → α → Prop} {w w' : World} {v u : Value} {xs ys : List α}
theorem OwnL.nil : OwnL sz B e R w (.slice none 0 0) ([] : List α) := ⟨[], rfl, fun i cs x h => by simp at h, World.ownsRow_nil w B e sz⟩
theorem OwnL.fut (hR : Stays R) (h : OwnL sz B e R w v xs) (hf : Fut w w') : OwnL sz B e R w' v xs := by
  obtain ⟨css, h1, h2, h3, h4⟩ := h
  refine ⟨css, h1, fun i cs x hi hx => ⟨(h2 i cs x hi hx).1, hR _ _ _ _ hf (h2 i cs x hi hx).2⟩, h3, ?_⟩
  rcases h4 with h4 | ⟨g, cap, cur, a1, a2, a3, a4⟩
  · exact .inl h4
  · exact .inr ⟨g, cap, cur, a1, a2, hf.block a3, a4⟩
theorem flatten_at {css : List (List Value)} (hs : ∀ (i : Nat) (cs : List Value), css[i]? = some cs → cs.length = sz) : ∀ (i j : Nat) (cs : List Value) (c : Value), css[i]? = some cs → cs[j]? = some c → css.flatten[i * sz + j]? = some c := by
  induction css with
  | nil => intro i j cs c h; simp at h
  | cons a r ih =>
    intro i j cs c h hj
    have ha := hs 0 a rfl
    cases i with
    | zero =>
      simp only [List.getElem?_cons_zero, Option.some.injEq] at h
      subst h
      rw [Nat.zero_mul, Nat.zero_add, List.flatten_cons, List.getElem?_append_left (List.getElem?_eq_some_iff.1 hj).1]
      exact hj
    | succ i =>
      rw [List.flatten_cons, List.getElem?_append_right (by rw [ha, Nat.add_mul]; omega), ha, show (i + 1) * sz + j - sz = i * sz + j by rw [Nat.add_mul]; omega]
      exact ih (fun k cs hk => hs (k + 1) cs (by simpa using hk)) i j cs c (by simpa using h) hj
theorem flatten_len {css : List (List Value)} (hs : ∀ (i : Nat) (cs : List Value), css[i]? = some cs → cs.length = sz) : css.flatten.length = css.length * sz := by
  induction css with
  | nil => simp
  | cons a r ih =>
    rw [List.flatten_cons, List.length_append, hs 0 a rfl, ih fun k cs hk => hs (k + 1) cs (by simpa using hk), List.length_cons, Nat.add_mul]; omega
/-- Read as a list. -/
theorem OwnL.rep (h : OwnL sz B e R w v xs) : SlRep sz maxLen R w v xs := by
  obtain ⟨css, h1, h2, h3, h4⟩ := h
  rcases h4 with ⟨rfl, h5⟩ | ⟨g, cap, cur, rfl, a2, a3, a4, a5, a6, a7⟩
  · have : xs = [] := List.length_eq_zero_iff.1 h5
    subst this
    exact ⟨none, 0, rfl, Nat.le_refl _, Nat.zero_le _, fun i x hx => by simp at hx⟩
  · refine ⟨_, cap, rfl, a4, a5, fun i x hx => ?_⟩
    have hil : i < xs.length := (List.getElem?_eq_some_iff.1 hx).1
    have hc : css[i]? = some (css[i]'(by omega)) := List.getElem?_eq_getElem (by omega)
    obtain ⟨b1, b2⟩ := h2 i _ x hc hx
    refine ⟨g, 0, _, rfl, b1, fun j c hj => ?_, b2⟩
    have hs : ∀ (i : Nat) (cs : List Value), css[i]? = some cs → cs.length = sz := fun i cs hi => by
      have hl : i < css.length := (List.getElem?_eq_some_iff.1 hi).1
      exact (h2 i cs _ hi (List.getElem?_eq_getElem (by omega))).1
    have hf := flatten_at hs i j _ c hc hj
    have hfl : i * sz + j < xs.length * sz := by
      have := (List.getElem?_eq_some_iff.1 hf).1
      rwa [flatten_len hs, h1] at this
    rw [← a7, List.getElem?_take, if_pos hfl, Array.getElem?_toList] at hf
    rw [Nat.zero_add]
    simp [World.cell?, a3, hf]
/-- .. its block. -/
theorem OwnL.block (h : OwnL sz B e R w v xs) : ∀ k, v.ownBlock = some k → B ≤ k ∧ k < w.heap.size := by
  obtain ⟨css, h1, h2, h3⟩ := h
  exact h3.lt
theorem Fut.grown {w0 : World} (h : Fut w0 w) {row : Option Nat} (hg : w.grownBy w' row) (hrow : ∀ k, row = some k → w0.heap.size ≤ k) : Fut w0 w' :=
  ⟨hg.os.trans h.os, hg.tape.trans h.tape, hg.output.trans h.output, Nat.le_trans h.size hg.size, fun k hk => (hg.block k (Nat.lt_of_lt_of_le hk h.size) (fun e => absurd (hrow k e.symm) (by omega))).trans (Below.block h k hk)⟩
theorem run_append_none {P : Program} (t ty : TypeId) (i : TypeInfo) (ht : P.underlying t = some (.slice e)) (hi : P.info? e = some i) (A : Option Addr) (n cap c : Nat) (hn : n ≤ cap) (w : World) :
    (Builtin.append_ #[t, t] ty #[.slice A n cap, .slice none 0 c]).run P w = .ok (.slice A n cap) w := by
  cases A <;> simp [Builtin.append_, run_underlying ht, sizeOf, typeInfo, hi, Builtin.lenOf, run_firstCells_none, hn, storeCells]

/-- APPEND: the list grows by what the second one holds. -/
theorem run_append_list {P : Program} (t ty : TypeId) (i : TypeInfo) (z : Value) (bytes : Nat) (ht : P.underlying t = some (.slice e)) (hi : P.info? e = some i) (hz : i.zero = some z) (hsize : i.size = sz) (hby : i.bytes = bytes) (hzs : z.cells.size = sz) (hsz : 0 < sz)
    (hR1 : ∀ w cs x, R w cs x → ∀ u ∈ cs, u.oneCell' = true) (hRk : ∀ w' cs (x : α), R w cs x → w.grownBy w' v.ownBlock → R w' cs x)
    (h : OwnL sz B e R w v xs) (hu : SlRep sz M R w u ys) (h63 : xs.length + ys.length ≤ maxLen) (hbytes : (xs.length + ys.length) * bytes ≤ 140737488355328) (hbase : B ≤ w.heap.size) :
    ∃ v' w', (Builtin.append_ #[t, t] ty #[v, u]).run P w = .ok v' w' ∧ OwnL sz B e R w' v' (xs ++ ys) ∧ w.grownBy w' v.ownBlock := by
  have h0 := h
  obtain ⟨css, h1, h2, h3⟩ := h
  obtain ⟨A, cap, rfl, hl, hm, hx⟩ := hu
  have hgrow : ∀ w', w.grownBy w' v.ownBlock → ∀ (i : Nat) (cs : List Value) (x : α), css[i]? = some cs → xs[i]? = some x → cs.length = sz ∧ R w' cs x := fun w' hg i cs x hi hx => ⟨(h2 i cs x hi hx).1, hRk _ _ _ (h2 i cs x hi hx).2 hg⟩
  cases A with
  | none =>
    have hy : ys = [] := by
      cases ys with
      | nil => rfl
      | cons y r => obtain ⟨_, _, _, hA, _⟩ := hx 0 y rfl; cases hA
    subst hy
    obtain ⟨A', cap', hv, hl', _⟩ := h0.rep.form
    subst hv
    exact ⟨_, w, run_append_none t ty i ht hi A' _ cap' cap hl' w, by rw [List.append_nil]; exact h0, World.grownBy.refl w _⟩
  | some a =>
    obtain ⟨news, hnl, hnews⟩ := exists_list (p := fun k (cs : List Value) => ∃ y, ys[k]? = some y ∧ cs.length = sz ∧ R w cs y ∧ ∀ j c, cs[j]? = some c → w.cell? (a.add (k * sz + j)) = some c) ys.length fun k hk => by
      obtain ⟨b, off, cs, hA, b1, b2, b3⟩ := hx k _ (List.getElem?_eq_getElem hk)
      injection hA with hA
      subst hA
      refine ⟨cs, _, List.getElem?_eq_getElem hk, b1, b3, fun j c hj => ?_⟩
      rw [← b2 j c hj]
      congr 1
      unfold Addr.add
      by_cases h' : k * sz + j = 0 <;> simp [h']
    have hs : ∀ (i : Nat) (cs : List Value), news[i]? = some cs → cs.length = sz := fun i cs hi => by obtain ⟨y, _, b1, _⟩ := hnews i cs hi; exact b1
    have hcells : ∀ j u, news.flatten[j]? = some u → w.cell? (a.add j) = some u := fun j u hj => by
      have hjl : j < news.length * sz := by
        have := (List.getElem?_eq_some_iff.1 hj).1
        rwa [flatten_len hs] at this
      have hk : j / sz < news.length := Nat.div_lt_of_lt_mul (by rw [Nat.mul_comm]; exact hjl)
      obtain ⟨y, _, b1, _, b2⟩ := hnews (j / sz) _ (List.getElem?_eq_getElem hk)
      have hr : j % sz < (news[j / sz]).length := by rw [b1]; exact Nat.mod_lt _ hsz
      have e1 := flatten_at hs (j / sz) (j % sz) _ _ (List.getElem?_eq_getElem hk) (List.getElem?_eq_getElem hr)
      have e2 := b2 (j % sz) _ (List.getElem?_eq_getElem hr)
      rw [show j / sz * sz + j % sz = j by rw [Nat.mul_comm]; exact Nat.div_add_mod j sz] at e1 e2
      rw [hj] at e1
      rw [e2, ← e1]
    have hone : ∀ u ∈ news.flatten, u.oneCell' = true := fun u hu => by
      obtain ⟨cs, hc, hu⟩ := List.mem_flatten.1 hu
      obtain ⟨k, hk⟩ := List.getElem?_of_mem hc
      obtain ⟨y, _, _, b3, _⟩ := hnews k cs hk
      exact hR1 _ _ _ b3 u hu
    obtain ⟨v', w', r1, r2, r3, _⟩ := run_append_own (P := P) (w := w) B t ty e i z sz bytes ht hi hz hsize hby hzs hsz v xs.length css.flatten h3 a ys.length cap news.flatten (by rw [flatten_len hs, hnl]) hcells hone h63 hbytes hbase
    refine ⟨v', w', r1, ⟨css ++ news, by simp [h1, hnl], fun k cs x hk hx' => ?_, by rw [List.flatten_append, List.length_append]; exact r2⟩, r3⟩
    rcases Nat.lt_or_ge k css.length with h' | h'
    · rw [List.getElem?_append_left h'] at hk
      rw [List.getElem?_append_left (by omega)] at hx'
      exact hgrow w' r3 k cs x hk hx'
    · rw [List.getElem?_append_right h'] at hk
      rw [List.getElem?_append_right (by omega)] at hx'
      obtain ⟨y, e1, b1, b3, _⟩ := hnews _ _ hk
      rw [h1, hx'] at e1
      obtain rfl := Option.some.inj e1
      exact ⟨b1, hRk _ _ _ b3 r3⟩
end

/-! ### Values and facts -/
abbrev OwnV (B : Nat) (e : TypeId) : World → Value → List V → Prop := OwnL 3 B e RV
theorem RV.one : ∀ (w : World) cs x, RV w cs x → ∀ u ∈ cs, u.oneCell' = true := fun w cs x h u hu => by
  obtain ⟨rfl, _⟩ := h
  simp [V.cells] at hu
  rcases hu with rfl | rfl | rfl <;> rfl
/-- Lists of values, appended. -/
theorem run_append_V {P : Program} {t ty e : TypeId} {B : Nat} {w : World} {v u : Value} {xs ys : List V} {M : Nat} (ht : P.underlying t = some (.slice e))
    (hinfo : (P.info? e).map (fun i => (i.zero, i.size, i.bytes)) = some (some (.agg #[.int .i8 0, .int .i64 0, .string ⟨#[]⟩]), 3, 32))
    (h : OwnV B e w v xs) (hu : SlRep 3 M RV w u ys) (hlen : xs.length + ys.length ≤ 4398046511104) (hbase : B ≤ w.heap.size) :
    ∃ v' w', (Builtin.append_ #[t, t] ty #[v, u]).run P w = .ok v' w' ∧ OwnV B e w' v' (xs ++ ys) ∧ w.grownBy w' v.ownBlock := by
  obtain ⟨i, hi, hz, hs, hb⟩ := info_parts hinfo
  exact run_append_list t ty i _ 32 ht hi hz hs hb rfl (by omega) RV.one (fun _ _ _ h _ => h) h hu (by unfold maxLen; omega) (by omega) hbase
theorem OwnV.vals {B : Nat} {e : TypeId} {w : World} {v : Value} {xs : List V} (h : OwnV B e w v xs) : Vals w v xs := h.rep.more (by unfold maxLen; omega)
end Go.Proofs.Ytcekphjcmippoaa
