/- Sz, CntP, SzP, SortL, Twin, Fact, Ord, KeysN -/
import Derived.Sort.Statements
import Derived.Test.YtkdnplebgmmclaaC04
/- The map of what is counted, predicate by predicate. -/
namespace Go.Proofs.Ytkdnplebgmmclaa
open Go.RowKit Go.WideMaps Go.Maps
set_option linter.unusedSimpArgs false
set_option linter.unusedVariables false

structure En where
  p : ByteArray
  blk : Nat
  rows : Nat
  lv : Value
  cols : List Col
def En.foot (e : En) (k : Nat) : Prop := efoot e.blk e.lv e.cols k
def En.entry (e : En) : ByteArray × Value := (e.p, .pointer (some ⟨e.blk, 0, none⟩))
structure SzI (B : Nat) (w : World) (mb : Nat) (es : List En) : Prop where
  map : MapE strV w mb (es.map En.entry)
  each : ∀ (i : Nat) (e : En), es[i]? = some e → EntI B w e.blk e.rows e.lv e.cols ∧ e.p.size ≤ maxLen
  apart : ∀ (i j : Nat) (e e' : En), es[i]? = some e → es[j]? = some e' → i ≠ j → ∀ k, e.foot k → ¬ e'.foot k
  off : ∀ (i : Nat) (e : En), es[i]? = some e → ¬ e.foot mb
section
variable {B mb : Nat} {w w' : World} {es : List En} {S : Nat → Prop}
theorem SzI.ok (h : SzI B w mb es) : ∀ q ∈ es.map En.entry, q.1.size ≤ maxLen := fun q hq => by
  obtain ⟨e, he, rfl⟩ := List.mem_map.1 hq
  obtain ⟨i, hi⟩ := List.mem_iff_getElem?.1 he
  exact (h.each i e hi).2
theorem SzI.only (h : SzI B w mb es) (hg : Only S w w') (hm : ¬ S mb) (hne : ∀ (i : Nat) (e : En), es[i]? = some e → ∀ k, e.foot k → ¬ S k) : SzI B w' mb es where
  map := h.map.kept (hg.block mb h.map.lt hm)
  each i e hi := ⟨(h.each i e hi).1.only hg (hne i e hi), (h.each i e hi).2⟩
  apart := h.apart
  off := h.off
theorem SzI.fut (h : SzI B w mb es) (hf : Fut w w') : SzI B w' mb es := h.only (S := fun _ => False) (Only.fut hf) (fun h => h) fun _ _ _ _ _ h => h
theorem SzI.new (w : World) : SzI B (w.alloc (.map #[] 0)) w.heap.size [] :=
  ⟨MapE.new w, fun i e h => by simp at h, fun i j e e' h => by simp at h, fun i e h => by simp at h⟩
theorem set_at {α : Type} {l : List α} {j i : Nat} {x y : α} (h : (l.set j x)[i]? = some y) : (i = j ∧ y = x) ∨ (i ≠ j ∧ l[i]? = some y) := by
  rw [List.getElem?_set] at h
  split at h
  · rename_i hij
    split at h
    · injection h with h; exact .inl ⟨hij.symm, h.symm⟩
    · cases h
  · rename_i hij
    exact .inr ⟨fun e => hij e.symm, h⟩
/-- One entry has turned. -/
theorem SzI.upd {j : Nat} {e e' : En} (h : SzI B w mb es) (hj : es[j]? = some e) (hg : Only S w w') (hS : ∀ k, S k → e.foot k ∨ w.heap.size ≤ k) (hE : EntI B w' e'.blk e'.rows e'.lv e'.cols) (hp : e'.p = e.p) (hb : e'.blk = e.blk) (hf : ∀ k, e'.foot k → e.foot k ∨ w.heap.size ≤ k) : SzI B w' mb (es.set j e') := by
  have he : (es.set j e').map En.entry = es.map En.entry := by
    rw [List.map_set]
    refine List.ext_getElem? fun i => ?_
    rw [List.getElem?_set]
    split
    · rename_i hij
      subst hij
      rw [List.getElem?_map, hj, List.length_map]
      rw [if_pos (List.getElem?_eq_some_iff.1 hj).1]
      simp [En.entry, hp, hb]
    · rfl
  have hml := h.map.lt
  have hoff := h.off j e hj
  have hne : ∀ (i : Nat) (x : En), i ≠ j → es[i]? = some x → ∀ k, x.foot k → ¬ S k := fun i x hij hi k hk hs => by
    rcases hS k hs with h1 | h1
    · exact h.apart i j x e hi hj hij k hk h1
    · have := ((h.each i x hi).1.lt k hk).2; omega
  refine ⟨by rw [he]; exact h.map.kept (hg.block mb hml fun hs => (hS mb hs).elim hoff fun h1 => by omega), fun i x hi => ?_, fun i i' x x' hi hi' hii k hk hk' => ?_, fun i x hi hk => ?_⟩
  · rcases set_at hi with ⟨rfl, rfl⟩ | ⟨hij, hi⟩
    · exact ⟨hE, by rw [hp]; exact (h.each _ e hj).2⟩
    · exact ⟨(h.each i x hi).1.only hg (hne i x hij hi), (h.each i x hi).2⟩
  · rcases set_at hi with ⟨rfl, rfl⟩ | ⟨hij, h2⟩
    · rcases set_at hi' with ⟨rfl, rfl⟩ | ⟨hij', h3⟩
      · exact hii rfl
      · rcases hf k hk with h1 | h1
        · exact h.apart _ i' e x' hj h3 hii k h1 hk'
        · have := ((h.each i' x' h3).1.lt k hk').2; omega
    · rcases set_at hi' with ⟨rfl, rfl⟩ | ⟨hij', h3⟩
      · rcases hf k hk' with h1 | h1
        · exact h.apart i _ x e h2 hj hii k hk h1
        · have := ((h.each i x h2).1.lt k hk).2; omega
      · exact h.apart i i' x x' h2 h3 hii k hk hk'
  · rcases set_at hi with ⟨rfl, rfl⟩ | ⟨hij, hi⟩
    · rcases hf mb hk with h1 | h1
      · exact hoff h1
      · omega
    · exact h.off i x hi hk
/-- An entry more: its block has just been made, the map has taken it in. -/
theorem SzI.snoc {p : ByteArray} {nb : Nat} (h : SzI B w mb es) (hp : p.size ≤ maxLen) (hnb : w.heap[nb]? = some (.cells #[.int .i64 0, .slice none 0 0] tCn (0, 0))) (hB : B ≤ nb) (hfresh : ∀ (i : Nat) (e : En), es[i]? = some e → ¬ e.foot nb)
    (hg : w.grownBy w' (some mb)) (hm : MapE strV w' mb (es.map En.entry ++ [(p, .pointer (some ⟨nb, 0, none⟩))])) : SzI B w' mb (es ++ [⟨p, nb, 0, .slice none 0 0, []⟩]) := by
  have O : Only (fun k => k = mb) w w' := Only.grown hg fun k hk => by injection hk with hk; exact hk.symm
  have hne : nb ≠ mb := fun e => map_ne h.map hnb e.symm
  have hfoot : ∀ k, (⟨p, nb, 0, .slice none 0 0, []⟩ : En).foot k → k = nb := fun k hk => by
    rcases hk with hk | hk | ⟨c, hc, _⟩
    · exact hk
    · cases hk
    · cases hc
  have at' : ∀ (i : Nat) (x : En), (es ++ [⟨p, nb, 0, .slice none 0 0, []⟩])[i]? = some x → (i < es.length ∧ es[i]? = some x) ∨ (i = es.length ∧ x = ⟨p, nb, 0, .slice none 0 0, []⟩) := fun i x hi => by
    by_cases hl : i < es.length
    · rw [List.getElem?_append_left hl] at hi; exact .inl ⟨hl, hi⟩
    · rw [List.getElem?_append_right (by omega)] at hi
      have h1 := (List.getElem?_eq_some_iff.1 hi).1
      have e : i = es.length := by simp at h1; omega
      subst e
      simp at hi
      exact .inr ⟨rfl, hi.symm⟩
  refine ⟨by rw [List.map_append]; exact hm, fun i x hi => ?_, fun i j x y hi hj hij k hk hk' => ?_, fun i x hi hk => ?_⟩
  · rcases at' i x hi with ⟨_, h1⟩ | ⟨_, rfl⟩
    · exact ⟨(h.each i x h1).1.only O fun k hk e => h.off i x h1 (e ▸ hk), (h.each i x h1).2⟩
    · exact ⟨⟨O.keeps hnb hne, OwnL.nil, fun i c hi => by simp at hi, List.nodup_nil, hB, fun c hc => by cases hc⟩, hp⟩
  · rcases at' i x hi with ⟨h0, h1⟩ | ⟨h0, rfl⟩
    · rcases at' j y hj with ⟨h2, h3⟩ | ⟨h2, rfl⟩
      · exact h.apart i j x y h1 h3 hij k hk hk'
      · exact hfresh i x h1 (hfoot k hk' ▸ hk)
    · rcases at' j y hj with ⟨h2, h3⟩ | ⟨h2, rfl⟩
      · exact hfresh j y h3 (hfoot k hk ▸ hk')
      · omega
  · rcases at' i x hi with ⟨_, h1⟩ | ⟨_, rfl⟩
    · exact h.off i x h1 hk
    · exact hne (hfoot mb hk).symm
end
end Go.Proofs.Ytkdnplebgmmclaa
/- Counting a column's unlike values, plainly. No program. -/
namespace Go.Proofs.Ytkdnplebgmmclaa
open Go.RowKit
set_option linter.unusedSimpArgs false
set_option linter.unusedVariables false

/-- Two lists without repeats that have the same members are as long. -/
theorem nodup_same_len {α : Type} {a b : List α} (ha : a.Nodup) (hb : b.Nodup) (h : ∀ x, x ∈ a ↔ x ∈ b) : a.length = b.length := by
  classical
  exact ((List.perm_ext_iff_of_nodup ha hb).2 h).length_eq
section
variable {α : Type} [DecidableEq α]
/-- A value more, if it isn't there. -/
def addV (l : List α) (v : α) : List α := if v ∈ l then l else l ++ [v]
def ddV (l : List α) : List α := l.foldl addV []
theorem mem_addV {l : List α} {v x : α} : x ∈ addV l v ↔ x ∈ l ∨ x = v := by
  unfold addV; split
  · rename_i h
    exact ⟨.inl, fun h' => h'.elim id fun e => e ▸ h⟩
  · simp
theorem nodup_addV {l : List α} {v : α} (h : l.Nodup) : (addV l v).Nodup := by
  unfold addV; split
  · exact h
  · rename_i hv
    rw [List.nodup_append]
    exact ⟨h, by simp, fun a ha b hb => by simp at hb; subst hb; exact fun e => hv (e ▸ ha)⟩
theorem fold_addV : ∀ (l a : List α), a.Nodup → (l.foldl addV a).Nodup ∧ ∀ x, x ∈ l.foldl addV a ↔ x ∈ a ∨ x ∈ l
  | [], a, h => ⟨h, by simp⟩
  | v :: l, a, h => by
    obtain ⟨h1, h2⟩ := fold_addV l (addV a v) (nodup_addV h)
    exact ⟨h1, fun x => by rw [List.foldl_cons, h2, mem_addV, List.mem_cons, or_assoc]⟩
theorem ddV_nodup (l : List α) : (ddV l).Nodup := (fold_addV l [] List.nodup_nil).1
theorem mem_ddV {l : List α} {x : α} : x ∈ ddV l ↔ x ∈ l := by rw [ddV, (fold_addV l [] List.nodup_nil).2]; simp
/-- One value of one fact is counted in. -/
def stepC (cols : List (List α)) (i : Nat) (v : α) : List (List α) := if i < cols.length then cols.set i (addV (cols.getD i []) v) else cols ++ [[v]]
def stepA : List (List α) → Nat → List α → List (List α)
  | cols, _, [] => cols
  | cols, i, v :: r => stepA (stepC cols i v) (i + 1) r
theorem stepC_len (cols : List (List α)) {i : Nat} (v : α) (h : i ≤ cols.length) : (stepC cols i v).length = max cols.length (i + 1) := by
  unfold stepC; split
  · rw [List.length_set]; omega
  · rw [List.length_append]; simp; omega
theorem stepC_at (cols : List (List α)) {i : Nat} (v : α) (h : i ≤ cols.length) (c : Nat) : (stepC cols i v)[c]? = if c = i then some (addV (cols.getD i []) v) else cols[c]? := by
  unfold stepC
  by_cases hi : i < cols.length
  · rw [if_pos hi, List.getElem?_set]
    by_cases hc : i = c
    · subst hc; simp [hi]
    · rw [if_neg hc, if_neg (fun e => hc e.symm)]
  · rw [if_neg hi]
    have e : i = cols.length := by omega
    subst e
    by_cases hc : c = cols.length
    · subst hc
      simp [addV, List.getD]
    · rw [if_neg hc]
      by_cases hl : c < cols.length
      · rw [List.getElem?_append_left hl]
      · rw [List.getElem?_append_right (by omega), List.getElem?_eq_none (by simp; omega), List.getElem?_eq_none (by omega)]
theorem stepA_len : ∀ (l : List α) (cols : List (List α)) (i : Nat), i ≤ cols.length → (stepA cols i l).length = max cols.length (i + l.length)
  | [], cols, i, h => by rw [stepA, List.length_nil]; omega
  | v :: r, cols, i, h => by
    have h1 := stepC_len cols v h
    rw [stepA, stepA_len r _ (i + 1) (by omega), h1, List.length_cons]; omega
theorem stepA_at : ∀ (l : List α) (cols : List (List α)) (i : Nat), i ≤ cols.length → ∀ c, (stepA cols i l)[c]? = if i ≤ c ∧ c < i + l.length then (l[c - i]?).map (addV (cols.getD c [])) else cols[c]?
  | [], cols, i, h, c => by rw [stepA, if_neg (by simp only [List.length_nil]; omega)]
  | v :: r, cols, i, h, c => by
    have h1 := stepC_len cols v h
    rw [stepA, stepA_at r _ (i + 1) (by omega), stepC_at cols v h]
    have hg : c ≠ i → (stepC cols i v).getD c [] = cols.getD c [] := fun hc => by
      rw [List.getD_eq_getElem?_getD, stepC_at cols v h, if_neg hc, List.getD_eq_getElem?_getD]
    by_cases hc : c = i
    · subst hc
      rw [if_neg (by omega), if_pos rfl, if_pos (by simp), Nat.sub_self]; rfl
    · rw [hg hc, if_neg hc]
      by_cases h2 : i + 1 ≤ c ∧ c < i + 1 + r.length
      · rw [if_pos h2, if_pos (by simp; omega), show c - i = c - (i + 1) + 1 by omega, List.getElem?_cons_succ]
      · rw [if_neg h2, if_neg (by simp; omega)]
/-- All tuples counted in. -/
def colsF (cols : List (List α)) (ts : List (List α)) : List (List α) := ts.foldl (fun c t => stepA c 0 t) cols
/-- A column of tuples. -/
def colOf (ts : List (List α)) (c : Nat) : List α := ts.filterMap (·[c]?)
theorem colsF_at : ∀ (ts : List (List α)) (cols : List (List α)) (c : Nat), (colsF cols ts).getD c [] = (colOf ts c).foldl addV (cols.getD c [])
  | [], cols, c => rfl
  | t :: ts, cols, c => by
    rw [colsF, List.foldl_cons]
    have ih := colsF_at ts (stepA cols 0 t) c
    rw [colsF] at ih
    rw [ih]
    have h := stepA_at t cols 0 (Nat.zero_le _) c
    rw [Nat.zero_add, Nat.sub_zero] at h
    rw [List.getD_eq_getElem?_getD, h]
    unfold colOf
    by_cases hc : c < t.length
    · rw [if_pos ⟨Nat.zero_le _, hc⟩, List.filterMap_cons]
      have e : t[c]? = some t[c] := List.getElem?_eq_getElem hc
      rw [e]
      rfl
    · have e : t[c]? = none := List.getElem?_eq_none (by omega)
      rw [if_neg (fun h => hc h.2), List.filterMap_cons, e, ← List.getD_eq_getElem?_getD]
theorem colsF_len : ∀ (ts : List (List α)) (cols : List (List α)), (colsF cols ts).length = ts.foldl (fun n t => max n t.length) cols.length
  | [], cols => rfl
  | t :: ts, cols => by
    rw [colsF, List.foldl_cons, List.foldl_cons]
    have ih := colsF_len ts (stepA cols 0 t)
    rw [colsF] at ih
    rw [ih, stepA_len t cols 0 (Nat.zero_le _), Nat.zero_add]
end
end Go.Proofs.Ytkdnplebgmmclaa
/- What the map of counts holds, plainly. -/
namespace Go.Proofs.Ytkdnplebgmmclaa
open Go.RowKit Go.WideMaps Go.Maps
set_option linter.unusedSimpArgs false
set_option linter.unusedVariables false

def ofP (p : ByteArray) (Y : List Fc) : List Fc := Y.filter fun f => decide (f.p = p)
/-- The entries are those of the names N, and count the facts Y. -/
structure CntI (es : List En) (N : List ByteArray) (Y : List Fc) : Prop where
  names : es.map (·.p) = ddV N
  rows : ∀ e ∈ es, e.rows = (ofP e.p Y).length
  cols : ∀ e ∈ es, e.cols.map (·.2) = colsF [] ((ofP e.p Y).map (·.a))
theorem CntI.nil : CntI [] [] [] := ⟨rfl, (fun e h => by cases h), (fun e h => by cases h)⟩
theorem ddV_snoc {α : Type} [DecidableEq α] (l : List α) (x : α) : ddV (l ++ [x]) = addV (ddV l) x := by
  unfold ddV; rw [List.foldl_append]; rfl
theorem CntI.old {es : List En} {N : List ByteArray} {Y : List Fc} (h : CntI es N Y) {p : ByteArray} (hp : ∃ e ∈ es, e.p = p) : CntI es (N ++ [p]) Y := by
  refine ⟨?_, h.rows, h.cols⟩
  have hm : p ∈ ddV N := by
    rw [← h.names]
    obtain ⟨e, he, rfl⟩ := hp
    exact List.mem_map.2 ⟨e, he, rfl⟩
  rw [ddV_snoc, h.names]
  unfold addV; rw [if_pos hm]
theorem CntI.more {es : List En} {N : List ByteArray} {Y : List Fc} (h : CntI es N Y) {p : ByteArray} {nb : Nat} {lv : Value} (hp : ∀ e ∈ es, e.p ≠ p) (hY : ∀ f ∈ Y, f.p ∈ N) : CntI (es ++ [⟨p, nb, 0, lv, []⟩]) (N ++ [p]) Y := by
  have hm : p ∉ ddV N := by
    rw [← h.names]
    intro hm
    obtain ⟨e, he, e1⟩ := List.mem_map.1 hm
    exact hp e he e1
  have h0 : ofP p Y = [] := by
    unfold ofP
    rw [List.filter_eq_nil_iff]
    intro f hf hd
    have e1 : f.p = p := of_decide_eq_true hd
    exact hm (mem_ddV.2 (e1 ▸ hY f hf))
  refine ⟨?_, fun e he => ?_, fun e he => ?_⟩
  · rw [ddV_snoc, List.map_append, h.names]
    unfold addV; rw [if_neg hm]; rfl
  · rcases List.mem_append.1 he with he | he
    · exact h.rows e he
    · rw [List.mem_singleton] at he
      subst he
      show 0 = _
      rw [h0]; rfl
  · rcases List.mem_append.1 he with he | he
    · exact h.cols e he
    · rw [List.mem_singleton] at he
      subst he
      show [] = colsF [] ((ofP p Y).map (·.a))
      rw [h0]; rfl
theorem ofP_snoc (p : ByteArray) (Y : List Fc) (f : Fc) : ofP p (Y ++ [f]) = if f.p = p then ofP p Y ++ [f] else ofP p Y := by
  unfold ofP
  rw [List.filter_append]
  by_cases h : f.p = p <;> simp [h]
theorem CntI.step {es : List En} {N : List ByteArray} {Y : List Fc} (h : CntI es N Y) {f : Fc} {j : Nat} {e e' : En} (hj : es[j]? = some e) (hp : e.p = f.p) (hp' : e'.p = e.p) (hr : e'.rows = e.rows + 1) (hc : e'.cols.map (·.2) = stepA (e.cols.map (·.2)) 0 f.a) (hd : ∀ (i : Nat) (x : En), es[i]? = some x → x.p = f.p → i = j) : CntI (es.set j e') N (Y ++ [f]) := by
  have hm : ∀ x ∈ es.set j e', x = e' ∨ (x ∈ es ∧ x.p ≠ f.p) := fun x hx => by
    obtain ⟨i, hi⟩ := List.mem_iff_getElem?.1 hx
    rcases set_at hi with ⟨_, h1⟩ | ⟨hij, h1⟩
    · exact .inl h1
    · exact .inr ⟨List.mem_of_getElem? h1, fun h2 => hij (hd i x h1 h2)⟩
  refine ⟨?_, fun x hx => ?_, fun x hx => ?_⟩
  · rw [← h.names, List.map_set]
    refine List.ext_getElem? fun i => ?_
    rw [List.getElem?_set]
    split
    · rename_i hij
      subst hij
      rw [List.length_map, if_pos (List.getElem?_eq_some_iff.1 hj).1, List.getElem?_map, hj, hp']; rfl
    · rfl
  · rcases hm x hx with rfl | ⟨h1, h2⟩
    · rw [hr, hp', ofP_snoc, if_pos hp.symm, List.length_append, h.rows e (List.mem_of_getElem? hj)]; rfl
    · rw [ofP_snoc, if_neg (fun h3 => h2 h3.symm)]; exact h.rows x h1
  · rcases hm x hx with rfl | ⟨h1, h2⟩
    · rw [hc, hp', ofP_snoc, if_pos hp.symm, h.cols e (List.mem_of_getElem? hj), List.map_append]
      unfold colsF
      rw [List.foldl_append]; rfl
    · rw [ofP_snoc, if_neg (fun h3 => h2 h3.symm)]; exact h.cols x h1
theorem CntI.one {es : List En} {N : List ByteArray} {Y : List Fc} (h : CntI es N Y) {i j : Nat} {x y : En} (hi : es[i]? = some x) (hj : es[j]? = some y) (he : x.p = y.p) : i = j := by
  have hn : (es.map (·.p)).Nodup := by rw [h.names]; exact ddV_nodup _
  have h1 := List.getElem?_eq_some_iff.1 hi
  have h2 := List.getElem?_eq_some_iff.1 hj
  refine (List.getElem_inj (xs := es.map (·.p)) (h₀ := by rw [List.length_map]; exact h1.1) (h₁ := by rw [List.length_map]; exact h2.1) hn).1 ?_
  rw [List.getElem_map, List.getElem_map, h1.2, h2.2]
  exact he
/-- A value is taken into a column's map. -/
theorem MapE.addV {w : World} {b : Nat} {l : List V} (h : MapE V.val w b (colE l)) (hok : ∀ v ∈ l, v.ok) {v : V} (hv : v.ok) :
    ∃ w', (Instr.mapUpdate 102 (.map (some b)) v.val unit0).run Try.prog w = .ok () w' ∧ MapE V.val w' b (colE (addV l v)) ∧ w.grownBy w' (some b) := by
  have hok' : ∀ q ∈ colE l, q.1.ok := fun q hq => by
    obtain ⟨x, hx, rfl⟩ := List.mem_map.1 hq
    exact hok x hx
  by_cases hm : v ∈ l
  · obtain ⟨j, hj⟩ := List.mem_iff_getElem?.1 hm
    have hj' : (colE l)[j]? = some (v, unit0) := by unfold colE; rw [List.getElem?_map, hj]; rfl
    obtain ⟨w', h1, h2, h3⟩ := h.put keyV hok' Try.underlying102 hv hj' unit0
    refine ⟨w', h1, ?_, h3⟩
    have e : (colE l).set j (v, unit0) = colE (Go.Proofs.Ytkdnplebgmmclaa.addV l v) := by
      have e2 : Go.Proofs.Ytkdnplebgmmclaa.addV l v = l := by unfold Go.Proofs.Ytkdnplebgmmclaa.addV; rw [if_pos hm]
      rw [e2]
      refine List.ext_getElem? fun i => ?_
      rw [List.getElem?_set]
      split
      · rename_i hij
        subst hij
        rw [if_pos (List.getElem?_eq_some_iff.1 hj').1, hj']
      · rfl
    rwa [e] at h2
  · obtain ⟨w', h1, h2, h3⟩ := h.push keyV hok' Try.underlying102 hv (fun q hq e => by
      obtain ⟨x, hx, rfl⟩ := List.mem_map.1 hq
      exact hm (e ▸ hx)) unit0
    refine ⟨w', h1, ?_, h3⟩
    have e : colE l ++ [(v, unit0)] = colE (Go.Proofs.Ytkdnplebgmmclaa.addV l v) := by
      have e2 : Go.Proofs.Ytkdnplebgmmclaa.addV l v = l ++ [v] := by unfold Go.Proofs.Ytkdnplebgmmclaa.addV; rw [if_neg hm]
      rw [e2]
      unfold colE
      rw [List.map_append]; rfl
    rwa [e] at h2
theorem wpList_mapAdd {ops : Array Oper} {rest : List Oper} {o : Oper} {a : Act} {Q : Exit → Act → World → Prop} {w : World} {b : Nat} {l : List V} {v : V} (hgd : Region.wanted o (yielded ops a.tmps) = true) (m y z : Operand)
    (ho : o.op = .mapUpdate 102 m y z) (hm : a.eval m = .map (some b)) (hy : a.eval y = v.val) (hz : a.eval z = unit0) (h : MapE V.val w b (colE l)) (hok : ∀ v ∈ l, v.ok) (hv : v.ok)
    (hk : ∀ w', MapE V.val w' b (colE (addV l v)) → w.grownBy w' (some b) → wpList Try.prog ops Q rest (a.put o.dst undef) w') : wpList Try.prog ops Q (o :: rest) a w := by
  obtain ⟨w', hr, h2, h3⟩ := h.addV hok hv
  refine wpList_of_skip hgd (w' := w') ?_ (hk w' h2 h3)
  unfold execOp
  simp only [ho, hm, hy, hz, hr, Sem.run_bind, Sem.run_pure, Result.andThen_ok]
end Go.Proofs.Ytkdnplebgmmclaa
/- Lists in order, each once: plain laws, generic in the comparison. No program. -/
namespace Go.Proofs.Ytkdnplebgmmclaa
open Go.RowKit
set_option linter.unusedSimpArgs false
set_option linter.unusedVariables false

/-- A comparison that is an order. -/
structure TotC {α : Type} (c : α → α → Int) : Prop where
  eq0 : ∀ x y, c x y = 0 ↔ x = y
  neg : ∀ x y, c y x = - c x y
  trans : ∀ x y z, c x y < 0 → c y z < 0 → c x z < 0
section
variable {α : Type} {c : α → α → Int}
def Up (c : α → α → Int) (l : List α) : Prop := l.Pairwise fun x y => c x y < 0
/-- These in order, each once. -/
def UpOf (c : α → α → Int) (l xs : List α) : Prop := Up c xs ∧ ∀ x, x ∈ xs ↔ x ∈ l
theorem TotC.irr (h : TotC c) (x : α) : ¬ c x x < 0 := by have := (h.eq0 x x).2 rfl; omega
theorem Up.uniq (h : TotC c) : ∀ {l m : List α}, Up c l → Up c m → (∀ x, x ∈ l ↔ x ∈ m) → l = m
  | [], [], _, _, _ => rfl
  | [], y :: m, _, _, e => by have := (e y).2 (by simp); simp at this
  | x :: l, [], _, _, e => by have := (e x).1 (by simp); simp at this
  | x :: l, y :: m, hl, hm, e => by
    have hl' := List.pairwise_cons.1 hl
    have hm' := List.pairwise_cons.1 hm
    have hxy : x = y := by
      have h1 := (e x).1 (by simp)
      have h2 := (e y).2 (by simp)
      rcases List.mem_cons.1 h1 with h1 | h1
      · exact h1
      · rcases List.mem_cons.1 h2 with h2 | h2
        · exact h2.symm
        · have a := hm'.1 x h1
          have b := hl'.1 y h2
          have := h.neg x y; omega
    subst hxy
    rw [Up.uniq h hl'.2 hm'.2 fun z => ?_]
    have hz := e z
    constructor
    · intro hz1
      rcases List.mem_cons.1 (hz.1 (List.mem_cons_of_mem _ hz1)) with e1 | e1
      · subst e1; exact absurd (hl'.1 z hz1) (h.irr z)
      · exact e1
    · intro hz1
      rcases List.mem_cons.1 (hz.2 (List.mem_cons_of_mem _ hz1)) with e1 | e1
      · subst e1; exact absurd (hm'.1 z hz1) (h.irr z)
      · exact e1
theorem UpOf.uniq (h : TotC c) {l m xs ys : List α} (hx : UpOf c l xs) (hy : UpOf c m ys) (hm : ∀ x, x ∈ l ↔ x ∈ m) : xs = ys :=
  Up.uniq h hx.1 hy.1 fun x => (hx.2 x).trans ((hm x).trans (hy.2 x).symm)

/-- Laid in at its place, if it is not there. -/
def insU (c : α → α → Int) (x : α) : List α → List α
  | [] => [x]
  | y :: r => if c x y < 0 then x :: y :: r else if c x y = 0 then y :: r else y :: insU c x r
def sortU (c : α → α → Int) (l : List α) : List α := l.foldr (insU c) []
theorem insU_mem (h : TotC c) (x z : α) : ∀ l : List α, z ∈ insU c x l ↔ z = x ∨ z ∈ l
  | [] => by simp [insU]
  | y :: r => by
    unfold insU
    split
    · simp
    · split
      · rename_i h1 h2
        have := (h.eq0 x y).1 h2
        subst this
        simp
      · rw [List.mem_cons, insU_mem h x z r, List.mem_cons]
        constructor
        · rintro (h | h | h) <;> simp [h]
        · rintro (h | h | h) <;> simp [h]
theorem insU_up (h : TotC c) (x : α) : ∀ l : List α, Up c l → Up c (insU c x l)
  | [], _ => by simp [insU, Up]
  | y :: r, hl => by
    have hl' := List.pairwise_cons.1 hl
    unfold insU
    split
    · rename_i h1
      refine List.pairwise_cons.2 ⟨fun z hz => ?_, hl⟩
      rcases List.mem_cons.1 hz with rfl | hz
      · exact h1
      · exact h.trans _ _ _ h1 (hl'.1 z hz)
    · split
      · exact hl
      · rename_i h1 h2
        refine List.pairwise_cons.2 ⟨fun z hz => ?_, insU_up h x r hl'.2⟩
        rcases (insU_mem h x z r).1 hz with rfl | hz
        · have := h.neg y z; omega
        · exact hl'.1 z hz
theorem sortU_spec (h : TotC c) : ∀ l : List α, UpOf c l (sortU c l)
  | [] => ⟨by simp [sortU, Up], by simp [sortU]⟩
  | x :: l => by
    obtain ⟨h1, h2⟩ := sortU_spec h l
    refine ⟨insU_up h x _ h1, fun z => ?_⟩
    show z ∈ insU c x (sortU c l) ↔ _
    rw [insU_mem h, h2, List.mem_cons]
theorem UpOf.eq (h : TotC c) {l xs : List α} (hx : UpOf c l xs) : xs = sortU c l := hx.uniq h (sortU_spec h l) fun _ => Iff.rfl
theorem sortU_congr (h : TotC c) {l m : List α} (hm : ∀ x, x ∈ l ↔ x ∈ m) : sortU c l = sortU c m := (sortU_spec h l).uniq h (sortU_spec h m) hm

/-- One more behind. -/
theorem Up.snoc {xs : List α} {x : α} (h : Up c xs) (hx : ∀ y ∈ xs, c y x < 0) : Up c (xs ++ [x]) :=
  List.pairwise_append.2 ⟨h, by simp, fun a ha b hb => by simp at hb; subst hb; exact hx a ha⟩
/-- Rising, equals behind one another. -/
def Sorted (c : α → α → Int) (l : List α) : Prop := l.Pairwise fun x y => ¬ c y x < 0
/-- What is kept of a rising list: what is not like the one ahead. -/
theorem UpOf.keep (h : TotC c) {t xs : List α} {k : Nat} (hs : Sorted c t) (hk : k < t.length) (hx : UpOf c (t.take k) xs) (hn : k = 0 ∨ ∃ hk0 : k - 1 < t.length, c t[k - 1] t[k] ≠ 0) : UpOf c (t.take (k + 1)) (xs ++ [t[k]]) := by
  refine ⟨hx.1.snoc fun y hy => ?_, fun z => ?_⟩
  · have hy' := (hx.2 y).1 hy
    rcases hn with rfl | ⟨hk0, hn⟩
    · simp at hy'
    · obtain ⟨i, hi⟩ := List.getElem?_of_mem hy'
      have hik : i < k := by
        have := (List.getElem?_eq_some_iff.1 hi).1
        rw [List.length_take] at this; omega
      rw [List.getElem?_take, if_pos hik, List.getElem?_eq_getElem (by omega)] at hi
      have hi := Option.some.inj hi
      have hp := List.pairwise_iff_getElem.1 hs
      have h1 : c t[k - 1] t[k] < 0 := by
        have := hp (k - 1) k hk0 hk (by omega)
        have := h.neg t[k - 1] t[k]; omega
      by_cases hik' : i = k - 1
      · subst hik'; rw [← hi]; exact h1
      · have h2 := hp i (k - 1) (by omega) hk0 (by omega)
        rw [hi] at h2
        by_cases e : c y t[k - 1] = 0
        · rw [(h.eq0 _ _).1 e]; exact h1
        · exact h.trans _ _ _ (by have := h.neg y t[k - 1]; omega) h1
  · rw [List.take_add_one, List.getElem?_eq_getElem hk]
    simp only [Option.toList, List.mem_append, hx.2 z]
theorem UpOf.drop (h : TotC c) {t xs : List α} {k : Nat} (hk : k < t.length) (hx : UpOf c (t.take k) xs) (h0 : 0 < k) (hn : c (t[k - 1]'(by omega)) t[k] = 0) : UpOf c (t.take (k + 1)) xs := by
  refine ⟨hx.1, fun z => ?_⟩
  have e := (h.eq0 _ _).1 hn
  rw [List.take_add_one, List.getElem?_eq_getElem hk, hx.2 z]
  simp only [Option.toList, List.mem_append, List.mem_singleton]
  constructor
  · exact .inl
  · rintro (h | rfl)
    · exact h
    · rw [← e]
      refine List.mem_of_getElem? (i := k - 1) ?_
      rw [List.getElem?_take, if_pos (by omega), List.getElem?_eq_getElem (by omega)]

/-- Two rising lists, joined from the front: what is out, and what is left of both. -/
structure Join (c : α → α → Int) (a b out ra rb : List α) : Prop where
  up : Up c out
  ua : Up c ra
  ub : Up c rb
  la : ∀ x ∈ out, ∀ y ∈ ra, c x y < 0
  lb : ∀ x ∈ out, ∀ y ∈ rb, c x y < 0
  mem : ∀ x, (x ∈ out ∨ x ∈ ra ∨ x ∈ rb) ↔ (x ∈ a ∨ x ∈ b)
theorem Join.start {a b : List α} (ha : Up c a) (hb : Up c b) : Join c a b [] a b :=
  ⟨by simp [Up], ha, hb, by simp, by simp, by simp⟩
theorem Join.left (h : TotC c) {a b out ra rb : List α} {x : α} (hj : Join c a b out (x :: ra) rb) (hx : ∀ y, rb.head? = some y → c x y < 0) : Join c a b (out ++ [x]) ra rb := by
  have ua := List.pairwise_cons.1 hj.ua
  have hxb : ∀ y ∈ rb, c x y < 0 := fun y hy => by
    cases rb with
    | nil => simp at hy
    | cons z r =>
      have hz := hx z rfl
      rcases List.mem_cons.1 hy with rfl | hy
      · exact hz
      · exact h.trans _ _ _ hz ((List.pairwise_cons.1 hj.ub).1 y hy)
  refine ⟨hj.up.snoc fun y hy => hj.la y hy x (by simp), ua.2, hj.ub, fun y hy z hz => ?_, fun y hy z hz => ?_, fun z => ?_⟩
  · rcases List.mem_append.1 hy with hy | hy
    · exact hj.la y hy z (List.mem_cons_of_mem _ hz)
    · simp at hy; subst hy; exact ua.1 z hz
  · rcases List.mem_append.1 hy with hy | hy
    · exact hj.lb y hy z hz
    · simp at hy; subst hy; exact hxb z hz
  · rw [← hj.mem z]; simp only [List.mem_append, List.mem_cons, List.not_mem_nil, or_false]
    constructor
    · rintro ((h | h) | h | h) <;> simp [h]
    · rintro (h | (h | h) | h) <;> simp [h]
theorem Join.swap {a b out ra rb : List α} (hj : Join c a b out ra rb) : Join c b a out rb ra :=
  ⟨hj.up, hj.ub, hj.ua, hj.lb, hj.la, fun x => by
    have := hj.mem x
    constructor
    · intro hx; exact (this.1 (by rcases hx with h | h | h <;> simp [h])).symm
    · intro hx; rcases this.2 hx.symm with h | h | h <;> simp [h]⟩
theorem Join.right (h : TotC c) {a b out ra rb : List α} {x : α} (hj : Join c a b out ra (x :: rb)) (hx : ∀ y, ra.head? = some y → c x y < 0) : Join c a b (out ++ [x]) ra rb :=
  (Join.left h hj.swap hx).swap
theorem Join.both (h : TotC c) {a b out ra rb : List α} {x y : α} (hj : Join c a b out (x :: ra) (y :: rb)) (hxy : c x y = 0) : Join c a b (out ++ [x]) ra rb := by
  have e := (h.eq0 _ _).1 hxy
  subst e
  have ua := List.pairwise_cons.1 hj.ua
  have ub := List.pairwise_cons.1 hj.ub
  refine ⟨hj.up.snoc fun y hy => hj.la y hy x (by simp), ua.2, ub.2, fun y hy z hz => ?_, fun y hy z hz => ?_, fun z => ?_⟩
  · rcases List.mem_append.1 hy with hy | hy
    · exact hj.la y hy z (List.mem_cons_of_mem _ hz)
    · simp at hy; subst hy; exact ua.1 z hz
  · rcases List.mem_append.1 hy with hy | hy
    · exact hj.lb y hy z (List.mem_cons_of_mem _ hz)
    · simp at hy; subst hy; exact ub.1 z hz
  · rw [← hj.mem z]; simp only [List.mem_append, List.mem_cons, List.not_mem_nil, or_false]
    constructor
    · rintro ((h | h) | h | h) <;> simp [h]
    · rintro (h | (h | h) | h | h) <;> simp [h]
theorem Join.done {a b out : List α} (hj : Join c a b out [] []) : UpOf c (a ++ b) out :=
  ⟨hj.up, fun x => by have := hj.mem x; simpa using this⟩
/-- .. of two halves, each in order. -/
theorem UpOf.join (h : TotC c) {l m a b out : List α} (ha : UpOf c l a) (hb : UpOf c m b) (hj : Join c a b out [] []) : UpOf c (l ++ m) out :=
  ⟨hj.done.1, fun x => by rw [hj.done.2 x, List.mem_append, List.mem_append, ha.2, hb.2]⟩

theorem TotC.swo (h : TotC c) : Go.Sort.SWO (fun x y => decide (c x y < 0)) where
  irrefl x := by simpa using h.irr x
  trans x y z h1 h2 := by
    simp only [decide_eq_true_eq] at *
    exact h.trans _ _ _ h1 h2
  ntrans x y z h1 h2 := by
    simp only [decide_eq_false_iff_not] at *
    intro h3
    by_cases e : c x y = 0
    · rw [(h.eq0 _ _).1 e] at h3; exact h2 h3
    · by_cases e' : c y z = 0
      · rw [← (h.eq0 _ _).1 e'] at h3; exact h1 h3
      · have h4 := h.trans z y x (by have := h.neg y z; omega) (by have := h.neg x y; omega)
        have := h.neg x z; omega
end
end Go.Proofs.Ytkdnplebgmmclaa
/- Copies with a mark behind: TwinValues, LeftValues. -/
namespace Go.Proofs.Ytkdnplebgmmclaa
open Go.RowKit
set_option linter.unusedSimpArgs false
set_option linter.unusedVariables false

/-! ### Copies with a mark behind -/
def markV : V := ⟨99, 777777, ⟨#[]⟩⟩
theorem infoV : (Try.prog.info? 29).map (fun i => (i.zero, i.size, i.bytes)) = some (some (.agg #[.int .i8 0, .int .i64 0, .string ⟨#[]⟩]), 3, 32) := by kernel_rfl
/-- A copy that TwinValues makes. -/
def TwinR (B : Nat) (w : World) (v : Value) (xs : List V) : Prop :=
  ∃ g, B ≤ g ∧ v = .slice (some ⟨g, 0, none⟩) xs.length (xs.length + 1) ∧ BlkF w g 29 ((xs.length + 1) * 3) (flat (xs ++ [markV]))
theorem TwinR.fut {B : Nat} {w w' : World} {v : Value} {xs : List V} (h : TwinR B w v xs) (hf : Fut w w') : TwinR B w' v xs := by
  obtain ⟨g, h1, h2, h3⟩ := h
  exact ⟨g, h1, h2, h3.fut hf⟩
theorem flat_left (xs ys : List V) (j : Nat) (h : j < xs.length * 3) : flat (xs ++ ys) j = flat xs j := by
  unfold flat
  rw [List.getElem?_append_left (by omega)]
theorem TwinR.vals {B : Nat} {w : World} {v : Value} {xs : List V} (h : TwinR B w v xs) (hok : ∀ x ∈ xs, x.ok) (hm : xs.length < 4398046511104) : Vals w v xs := by
  obtain ⟨g, h1, rfl, h3⟩ := h
  exact vals_of_blk h3 (by omega) (fun j hj => flat_left _ _ _ hj) (by omega) (by omega) hok
theorem Vals.oks {w : World} {v : Value} {xs : List V} (h : Vals w v xs) : ∀ x ∈ xs, x.ok := by
  obtain ⟨A, cap, _, _, _, h3⟩ := h
  intro x hx
  obtain ⟨i, hi⟩ := List.getElem?_of_mem hx
  obtain ⟨_, _, _, _, _, _, _, hok⟩ := h3 i x hi
  exact hok

def zeroV : V := ⟨0, 0, ⟨#[]⟩⟩
theorem flat_rep (xs : List V) (k n : Nat) (hk : k < xs.length) (j : Nat) (hj : j < n * 3) (hn : xs.length ≤ n) :
    (if j = k * 3 + 2 then Value.string (xs[k]).s else if j = k * 3 + 1 then .int .i64 (xs[k]).n else if j = k * 3 then .int .i8 (xs[k]).k else flat (xs.take k ++ List.replicate (n - k) zeroV) j) =
      flat (xs.take (k + 1) ++ List.replicate (n - (k + 1)) zeroV) j := by
  obtain ⟨f0, f1, f2⟩ := flat_at xs k hk
  by_cases hjk : j / 3 = k
  · have hl : flat (xs.take (k + 1) ++ List.replicate (n - (k + 1)) zeroV) j = flat xs j := by
      rw [flat_left _ _ _ (by rw [List.length_take]; omega)]
      unfold flat
      rw [List.getElem?_take, if_pos (by omega)]
    rw [hl]
    rcases (by omega : j = k * 3 + 2 ∨ j = k * 3 + 1 ∨ j = k * 3) with rfl | rfl | rfl
    · rw [if_pos rfl, f2]
    · rw [if_neg (by omega), if_pos rfl, f1]
    · rw [if_neg (by omega), if_neg (by omega), if_pos rfl, f0]
  · rw [if_neg (by omega), if_neg (by omega), if_neg (by omega)]
    rcases Nat.lt_or_ge (j / 3) k with h | h
    · rw [flat_left _ _ _ (by rw [List.length_take]; omega), flat_left _ _ _ (by rw [List.length_take]; omega)]
      unfold flat
      rw [List.getElem?_take, List.getElem?_take, if_pos (by omega), if_pos (by omega)]
    · unfold flat
      rw [List.getElem?_append_right (by rw [List.length_take]; omega), List.getElem?_append_right (by rw [List.length_take]; omega), List.length_take, List.length_take,
        List.getElem?_replicate, List.getElem?_replicate, if_pos (by omega), if_pos (by omega)]
theorem flat_mark (xs : List V) (j : Nat) (hj : j < (xs.length + 1) * 3) :
    (if j = xs.length * 3 + 2 then Value.string markV.s else if j = xs.length * 3 + 1 then .int .i64 markV.n else if j = xs.length * 3 then .int .i8 markV.k else flat (xs.take xs.length ++ List.replicate (xs.length + 1 - xs.length) zeroV) j) =
      flat (xs ++ [markV]) j := by
  rw [List.take_length, show xs.length + 1 - xs.length = 1 by omega]
  rcases Nat.lt_or_ge j (xs.length * 3) with h | h
  · rw [if_neg (by omega), if_neg (by omega), if_neg (by omega), flat_left _ _ _ h, flat_left _ _ _ h]
  · obtain ⟨f0, f1, f2⟩ := flat_at (xs ++ [markV]) xs.length (by simp)
    simp only [List.getElem_concat_length] at f0 f1 f2
    rcases (by omega : j = xs.length * 3 + 2 ∨ j = xs.length * 3 + 1 ∨ j = xs.length * 3) with rfl | rfl | rfl
    · rw [if_pos rfl, f2]
    · rw [if_neg (by omega), if_pos rfl, f1]
    · rw [if_neg (by omega), if_neg (by omega), if_pos rfl, f0]

theorem made_zero (n j : Nat) (hj : j < n * 3) : (madeCells #[Value.int .i8 0, .int .i64 0, .string ⟨#[]⟩] (n * 3)).getD j undef = flat (List.replicate n zeroV) j := by
  unfold flat
  rw [List.getElem?_replicate, if_pos (by omega)]
  simp only [madeCells, Option.map_some, Option.getD_some, V.cells, zeroV]
  simp [hj]
  rcases (by omega : j % 3 = 0 ∨ j % 3 = 1 ∨ j % 3 = 2) with h | h | h <;> rw [h] <;> rfl

end Go.Proofs.Ytkdnplebgmmclaa
/- Facts: BeyondFacts, TwinFact, LeftFact; the order of facts, of the program and of the reference. -/
namespace Go.Proofs.Ytkdnplebgmmclaa
open Go.RowKit
set_option linter.unusedSimpArgs false
set_option linter.unusedVariables false

theorem Facs.at_ {w : World} {A : Option Addr} {n cap : Nat} {fs : List Fc} (h : Facs w (.slice A n cap) fs) {k : Nat} (hk : k < fs.length) :
    ∃ b off A' cap', A = some ⟨b, off, none⟩ ∧ (fs[k]).p.size ≤ 140737488351232 ∧ w.cell? ⟨b, off + k * 2, none⟩ = some (.string (fs[k]).p) ∧ w.cell? ⟨b, off + k * 2 + 1, none⟩ = some (.slice A' (fs[k]).a.length cap') ∧ (fs[k]).a.length ≤ cap' ∧ cap' ≤ 4398046511104 ∧ Vals w (.slice A' (fs[k]).a.length cap') (fs[k]).a := by
  obtain ⟨A1, cap1, hv, _, _, h3⟩ := h
  obtain ⟨b, off, cs, hA, hl, hc, u, hr, hp, hu⟩ := h3 k _ (List.getElem?_eq_getElem hk)
  injection hv with hv _ _
  subst hr
  obtain ⟨A', cap', rfl, h4, h5⟩ := SlRep.form hu
  exact ⟨b, off, A', cap', hv.trans hA, hp, hc 0 _ rfl, hc 1 _ rfl, h4, h5, hu.vals⟩
def parts : List Fc → Nat
  | [] => 0
  | f :: r => 1 + f.a.length + parts r
theorem parts_take (fs : List Fc) (k : Nat) (hk : k < fs.length) : parts (fs.take (k + 1)) = parts (fs.take k) + (1 + (fs[k]).a.length) := by
  induction fs generalizing k with
  | nil => simp at hk
  | cons f r ih =>
    cases k with
    | zero => simp [parts]
    | succ k => simp only [List.take_succ_cons, parts, List.getElem_cons_succ]; rw [ih k (by simpa using hk)]; omega
theorem parts_le (fs : List Fc) (k : Nat) : parts (fs.take k) ≤ parts fs := by
  induction fs generalizing k with
  | nil => simp
  | cons f r ih =>
    cases k with
    | zero => simp [parts]
    | succ k => simp only [List.take_succ_cons, parts]; have := ih k; omega

def Fc.cells (f : Fc) (u : Value) : List Value := [.string f.p, u]
def cmpF (f g : Fc) : Int := firstNZ [cmpS f.p g.p, cmpT f.a g.a]
set_option maxHeartbeats 400000 in
theorem cmpF_any (f g : Fc) (u v : Value) (w : World) (hu : Vals w u f.a) (hv : Vals w v g.a) :
    Calls Try.prog 36 #[.agg #[.string f.p, u], .agg #[.string g.p, v]] w fun e w' => e = .returned (.int .i64 (cmpF f g)) ∧ Fut w w' := by
  obtain ⟨A, cap, rfl, hl, hm⟩ := SlRep.form hu
  obtain ⟨B, cap', rfl, hl', hm'⟩ := SlRep.form hv
  have hf0 : ∀ X Y, Fut w ((w.alloc X).alloc Y).drew := fun X Y => ((Fut.alloc _ _).trans (Fut.alloc _ _)).trans (Fut.drew _)
  go_enter Try.func36, Try.ntmps36
  go_wp2
  refine wp_graph 13 [.d, .d, .d, .d, .d, .d, .d, .d, .d, .d, .r (fun v w => SlRep 1 17592186044416 RI w v [cmpS f.p g.p, cmpT f.a g.a]), .d, .d] (by kernel_rfl) (by kernel_rfl) (by kernel_rfl) ?_
  simp only [List.take_succ_cons, List.take_zero, List.drop_succ_cons, List.drop_zero, Exs]
  iterate 12 apply Exists.intro
  apply Run.valG (wanted_none rfl _)
  · intro w1 h1 hk
    have cx_0_0 : w1.cell? ⟨w.heap.size, 0, none⟩ = some (.string f.p) := Fut.cell h1 (by first | exact c0_0_0 | go_simp)
    have cx_0_1 : w1.cell? ⟨w.heap.size, 1, none⟩ = some (.slice A f.a.length cap) := Fut.cell h1 (by first | exact c0_0_1 | go_simp)
    have cx_1_0 : w1.cell? ⟨w.heap.size + 1, 0, none⟩ = some (.string g.p) := Fut.cell h1 (by first | exact c0_1_0 | go_simp)
    have cx_1_1 : w1.cell? ⟨w.heap.size + 1, 1, none⟩ = some (.slice B g.a.length cap') := Fut.cell h1 (by first | exact c0_1_1 | go_simp)
    go_simp; rfl
  simp only [Act.put, List.setIfInBounds_toArray, List.set_cons_succ, List.set_cons_zero, List.nil_append, List.cons_append]
  apply Run.valG (wanted_none rfl _)
  · intro w1 h1 hk
    have cx_0_0 : w1.cell? ⟨w.heap.size, 0, none⟩ = some (.string f.p) := Fut.cell h1 (by first | exact c0_0_0 | go_simp)
    have cx_0_1 : w1.cell? ⟨w.heap.size, 1, none⟩ = some (.slice A f.a.length cap) := Fut.cell h1 (by first | exact c0_0_1 | go_simp)
    have cx_1_0 : w1.cell? ⟨w.heap.size + 1, 0, none⟩ = some (.string g.p) := Fut.cell h1 (by first | exact c0_1_0 | go_simp)
    have cx_1_1 : w1.cell? ⟨w.heap.size + 1, 1, none⟩ = some (.slice B g.a.length cap') := Fut.cell h1 (by first | exact c0_1_1 | go_simp)
    go_simp; rfl
  simp only [Act.put, List.setIfInBounds_toArray, List.set_cons_succ, List.set_cons_zero, List.nil_append, List.cons_append]
  apply Run.valG (wanted_none rfl _)
  · intro w1 h1 hk
    have cx_0_0 : w1.cell? ⟨w.heap.size, 0, none⟩ = some (.string f.p) := Fut.cell h1 (by first | exact c0_0_0 | go_simp)
    have cx_0_1 : w1.cell? ⟨w.heap.size, 1, none⟩ = some (.slice A f.a.length cap) := Fut.cell h1 (by first | exact c0_0_1 | go_simp)
    have cx_1_0 : w1.cell? ⟨w.heap.size + 1, 0, none⟩ = some (.string g.p) := Fut.cell h1 (by first | exact c0_1_0 | go_simp)
    have cx_1_1 : w1.cell? ⟨w.heap.size + 1, 1, none⟩ = some (.slice B g.a.length cap') := Fut.cell h1 (by first | exact c0_1_1 | go_simp)
    go_simp; rfl
  simp only [Act.put, List.setIfInBounds_toArray, List.set_cons_succ, List.set_cons_zero, List.nil_append, List.cons_append]
  apply Run.valG (wanted_none rfl _)
  · intro w1 h1 hk
    have cx_0_0 : w1.cell? ⟨w.heap.size, 0, none⟩ = some (.string f.p) := Fut.cell h1 (by first | exact c0_0_0 | go_simp)
    have cx_0_1 : w1.cell? ⟨w.heap.size, 1, none⟩ = some (.slice A f.a.length cap) := Fut.cell h1 (by first | exact c0_0_1 | go_simp)
    have cx_1_0 : w1.cell? ⟨w.heap.size + 1, 0, none⟩ = some (.string g.p) := Fut.cell h1 (by first | exact c0_1_0 | go_simp)
    have cx_1_1 : w1.cell? ⟨w.heap.size + 1, 1, none⟩ = some (.slice B g.a.length cap') := Fut.cell h1 (by first | exact c0_1_1 | go_simp)
    go_simp; rfl
  simp only [Act.put, List.setIfInBounds_toArray, List.set_cons_succ, List.set_cons_zero, List.nil_append, List.cons_append]
  apply Run.call (wanted_none rfl _) (fun _ _ => by go_simp; exact ⟨rfl, rfl⟩)
  · intro w1 h1 hk
    have cx_0_0 : w1.cell? ⟨w.heap.size, 0, none⟩ = some (.string f.p) := Fut.cell h1 (by first | exact c0_0_0 | go_simp)
    have cx_0_1 : w1.cell? ⟨w.heap.size, 1, none⟩ = some (.slice A f.a.length cap) := Fut.cell h1 (by first | exact c0_0_1 | go_simp)
    have cx_1_0 : w1.cell? ⟨w.heap.size + 1, 0, none⟩ = some (.string g.p) := Fut.cell h1 (by first | exact c0_1_0 | go_simp)
    have cx_1_1 : w1.cell? ⟨w.heap.size + 1, 1, none⟩ = some (.slice B g.a.length cap') := Fut.cell h1 (by first | exact c0_1_1 | go_simp)
    exact (Try.strings_Compare _ _ _).mono fun e w' ⟨h, hw⟩ => ⟨h, hw ▸ Fut.refl _⟩
  simp only [Act.put, List.setIfInBounds_toArray, List.set_cons_succ, List.set_cons_zero, List.nil_append, List.cons_append]
  apply Run.valG (wanted_none rfl _)
  · intro w1 h1 hk
    have cx_0_0 : w1.cell? ⟨w.heap.size, 0, none⟩ = some (.string f.p) := Fut.cell h1 (by first | exact c0_0_0 | go_simp)
    have cx_0_1 : w1.cell? ⟨w.heap.size, 1, none⟩ = some (.slice A f.a.length cap) := Fut.cell h1 (by first | exact c0_0_1 | go_simp)
    have cx_1_0 : w1.cell? ⟨w.heap.size + 1, 0, none⟩ = some (.string g.p) := Fut.cell h1 (by first | exact c0_1_0 | go_simp)
    have cx_1_1 : w1.cell? ⟨w.heap.size + 1, 1, none⟩ = some (.slice B g.a.length cap') := Fut.cell h1 (by first | exact c0_1_1 | go_simp)
    go_simp; rfl
  simp only [Act.put, List.setIfInBounds_toArray, List.set_cons_succ, List.set_cons_zero, List.nil_append, List.cons_append]
  apply Run.valG (wanted_none rfl _)
  · intro w1 h1 hk
    have cx_0_0 : w1.cell? ⟨w.heap.size, 0, none⟩ = some (.string f.p) := Fut.cell h1 (by first | exact c0_0_0 | go_simp)
    have cx_0_1 : w1.cell? ⟨w.heap.size, 1, none⟩ = some (.slice A f.a.length cap) := Fut.cell h1 (by first | exact c0_0_1 | go_simp)
    have cx_1_0 : w1.cell? ⟨w.heap.size + 1, 0, none⟩ = some (.string g.p) := Fut.cell h1 (by first | exact c0_1_0 | go_simp)
    have cx_1_1 : w1.cell? ⟨w.heap.size + 1, 1, none⟩ = some (.slice B g.a.length cap') := Fut.cell h1 (by first | exact c0_1_1 | go_simp)
    go_simp; rfl
  simp only [Act.put, List.setIfInBounds_toArray, List.set_cons_succ, List.set_cons_zero, List.nil_append, List.cons_append]
  apply Run.valG (wanted_none rfl _)
  · intro w1 h1 hk
    have cx_0_0 : w1.cell? ⟨w.heap.size, 0, none⟩ = some (.string f.p) := Fut.cell h1 (by first | exact c0_0_0 | go_simp)
    have cx_0_1 : w1.cell? ⟨w.heap.size, 1, none⟩ = some (.slice A f.a.length cap) := Fut.cell h1 (by first | exact c0_0_1 | go_simp)
    have cx_1_0 : w1.cell? ⟨w.heap.size + 1, 0, none⟩ = some (.string g.p) := Fut.cell h1 (by first | exact c0_1_0 | go_simp)
    have cx_1_1 : w1.cell? ⟨w.heap.size + 1, 1, none⟩ = some (.slice B g.a.length cap') := Fut.cell h1 (by first | exact c0_1_1 | go_simp)
    go_simp; rfl
  simp only [Act.put, List.setIfInBounds_toArray, List.set_cons_succ, List.set_cons_zero, List.nil_append, List.cons_append]
  apply Run.valG (wanted_none rfl _)
  · intro w1 h1 hk
    have cx_0_0 : w1.cell? ⟨w.heap.size, 0, none⟩ = some (.string f.p) := Fut.cell h1 (by first | exact c0_0_0 | go_simp)
    have cx_0_1 : w1.cell? ⟨w.heap.size, 1, none⟩ = some (.slice A f.a.length cap) := Fut.cell h1 (by first | exact c0_0_1 | go_simp)
    have cx_1_0 : w1.cell? ⟨w.heap.size + 1, 0, none⟩ = some (.string g.p) := Fut.cell h1 (by first | exact c0_1_0 | go_simp)
    have cx_1_1 : w1.cell? ⟨w.heap.size + 1, 1, none⟩ = some (.slice B g.a.length cap') := Fut.cell h1 (by first | exact c0_1_1 | go_simp)
    go_simp; rfl
  simp only [Act.put, List.setIfInBounds_toArray, List.set_cons_succ, List.set_cons_zero, List.nil_append, List.cons_append]
  apply Run.call (wanted_none rfl _) (fun _ _ => by go_simp; exact ⟨rfl, rfl⟩)
  · intro w1 h1 hk
    have cx_0_0 : w1.cell? ⟨w.heap.size, 0, none⟩ = some (.string f.p) := Fut.cell h1 (by first | exact c0_0_0 | go_simp)
    have cx_0_1 : w1.cell? ⟨w.heap.size, 1, none⟩ = some (.slice A f.a.length cap) := Fut.cell h1 (by first | exact c0_0_1 | go_simp)
    have cx_1_0 : w1.cell? ⟨w.heap.size + 1, 0, none⟩ = some (.string g.p) := Fut.cell h1 (by first | exact c0_1_0 | go_simp)
    have cx_1_1 : w1.cell? ⟨w.heap.size + 1, 1, none⟩ = some (.slice B g.a.length cap') := Fut.cell h1 (by first | exact c0_1_1 | go_simp)
    exact cmpT_any _ _ f.a g.a _ (hu.fut RV.stays ((hf0 _ _).trans h1)) (hv.fut RV.stays ((hf0 _ _).trans h1))
  simp only [Act.put, List.setIfInBounds_toArray, List.set_cons_succ, List.set_cons_zero, List.nil_append, List.cons_append]
  apply Run.valR (wanted_none rfl _) (by intro v w w' hf hs; exact hs.fut RI.stays hf)
  · intro w1 h1 hk
    have cx_0_0 : w1.cell? ⟨w.heap.size, 0, none⟩ = some (.string f.p) := Fut.cell h1 (by first | exact c0_0_0 | go_simp)
    have cx_0_1 : w1.cell? ⟨w.heap.size, 1, none⟩ = some (.slice A f.a.length cap) := Fut.cell h1 (by first | exact c0_0_1 | go_simp)
    have cx_1_0 : w1.cell? ⟨w.heap.size + 1, 0, none⟩ = some (.string g.p) := Fut.cell h1 (by first | exact c0_1_0 | go_simp)
    have cx_1_1 : w1.cell? ⟨w.heap.size + 1, 1, none⟩ = some (.slice B g.a.length cap') := Fut.cell h1 (by first | exact c0_1_1 | go_simp)
    go_simp; exact ⟨_, _, ⟨rfl, rfl⟩, Fut.alloc _ _, ints_new w1 _ [cmpS f.p g.p, cmpT f.a g.a] (by simp)⟩
  intro v10
  simp only [Act.put, List.setIfInBounds_toArray, List.set_cons_succ, List.set_cons_zero, List.nil_append, List.cons_append]
  apply Run.call (wanted_none rfl _) (fun _ _ => by go_simp; exact ⟨rfl, rfl⟩)
  · intro w1 h1 hk
    have f10 := Facts.get hk 0 rfl (by kernel_rfl)
    have cx_0_0 : w1.cell? ⟨w.heap.size, 0, none⟩ = some (.string f.p) := Fut.cell h1 (by first | exact c0_0_0 | go_simp)
    have cx_0_1 : w1.cell? ⟨w.heap.size, 1, none⟩ = some (.slice A f.a.length cap) := Fut.cell h1 (by first | exact c0_0_1 | go_simp)
    have cx_1_0 : w1.cell? ⟨w.heap.size + 1, 0, none⟩ = some (.string g.p) := Fut.cell h1 (by first | exact c0_1_0 | go_simp)
    have cx_1_1 : w1.cell? ⟨w.heap.size + 1, 1, none⟩ = some (.slice B g.a.length cap') := Fut.cell h1 (by first | exact c0_1_1 | go_simp)
    exact (or_any _ _ _ f10).mono fun e w' ⟨h, hw⟩ => ⟨h, hw ▸ Fut.refl _⟩
  simp only [Act.put, List.setIfInBounds_toArray, List.set_cons_succ, List.set_cons_zero, List.nil_append, List.cons_append]
  apply Run.valG (wanted_none rfl _)
  · intro w1 h1 hk
    have cx_0_0 : w1.cell? ⟨w.heap.size, 0, none⟩ = some (.string f.p) := Fut.cell h1 (by first | exact c0_0_0 | go_simp)
    have cx_0_1 : w1.cell? ⟨w.heap.size, 1, none⟩ = some (.slice A f.a.length cap) := Fut.cell h1 (by first | exact c0_0_1 | go_simp)
    have cx_1_0 : w1.cell? ⟨w.heap.size + 1, 0, none⟩ = some (.string g.p) := Fut.cell h1 (by first | exact c0_1_0 | go_simp)
    have cx_1_1 : w1.cell? ⟨w.heap.size + 1, 1, none⟩ = some (.slice B g.a.length cap') := Fut.cell h1 (by first | exact c0_1_1 | go_simp)
    go_simp; rfl
  simp only [Act.put, List.setIfInBounds_toArray, List.set_cons_succ, List.set_cons_zero, List.nil_append, List.cons_append]
  apply Run.done
  intro w2 h2 hk
  have c2_0_0 : w2.cell? ⟨w.heap.size, 0, none⟩ = some (.string f.p) := Fut.cell h2 (by first | exact c0_0_0 | go_simp)
  have c2_0_1 : w2.cell? ⟨w.heap.size, 1, none⟩ = some (.slice A f.a.length cap) := Fut.cell h2 (by first | exact c0_0_1 | go_simp)
  have c2_1_0 : w2.cell? ⟨w.heap.size + 1, 0, none⟩ = some (.string g.p) := Fut.cell h2 (by first | exact c0_1_0 | go_simp)
  have c2_1_1 : w2.cell? ⟨w.heap.size + 1, 1, none⟩ = some (.slice B g.a.length cap') := Fut.cell h2 (by first | exact c0_1_1 | go_simp)
  obtain ⟨f10, _⟩ := hk
  go_wp2
  go_ret
  exact ⟨rfl, (hf0 _ _).trans h2⟩
theorem cmpF_spec (f g : Fc) : cmpF f g = if Op.bytesLess f.p.toList g.p.toList = true then -1 else if Op.bytesLess g.p.toList f.p.toList = true then 1 else cmpT f.a g.a := by
  rw [cmpBytes_less, cmpBytes_less, ByteArray.toList_eq, ByteArray.toList_eq]
  unfold cmpF cmpS
  rw [cmpBytes_swap f.p.data.toList g.p.data.toList]
  simp only [decide_eq_true_eq, firstNZ]
  rcases cmpBytes_range f.p.data.toList g.p.data.toList with h | h | h
  · simp [h]
  · simp only [h]
    by_cases h0 : cmpT f.a g.a = 0 <;> simp [h0]
  · simp [h]
end Go.Proofs.Ytkdnplebgmmclaa
/- The orders are orders: of values, of tuples, of facts. Plain; no program. -/
namespace Go.Proofs.Ytkdnplebgmmclaa
open Go.RowKit
set_option linter.unusedSimpArgs false
set_option linter.unusedVariables false

def cmpU (a b : UInt8) : Int := if a < b then -1 else if b < a then 1 else 0
theorem ordU : Ord3 cmpU := by
  have key : ∀ a b, cmpU a b = cmpI a.toNat b.toNat := fun a b => by
    unfold cmpU cmpI
    simp only [UInt8.lt_iff_toNat_lt]
    (repeat' split) <;> omega
  constructor
  · intro x y; rw [key]; exact ordI.rng _ _
  · intro x y; rw [key, key]; exact ordI.swap _ _
  · intro x y
    rw [key, ordI.zero]
    exact ⟨fun e => UInt8.toNat_inj.1 (by omega), fun e => by rw [e]⟩
  · intro x y z; rw [key, key, key]; exact ordI.tr _ _ _
theorem cmpBytes_lcmp : ∀ a b : List UInt8, Lib.compareBytes a b = lcmp cmpU a b
  | [], [] => rfl
  | [], _ :: _ => rfl
  | _ :: _, [] => rfl
  | a :: r, b :: q => by
    simp only [Lib.compareBytes, lcmp, cmpU]
    by_cases h1 : a < b
    · simp [h1]
    · by_cases h2 : b < a
      · simp [h1, h2]
      · simp [h1, h2, cmpBytes_lcmp r q]
theorem ordS : Ord3 cmpS := by
  have h := lcmp_ord ordU
  have key : ∀ a b, cmpS a b = lcmp cmpU a.data.toList b.data.toList := fun a b => cmpBytes_lcmp _ _
  exact ⟨fun x y => by rw [key]; exact h.rng _ _, fun x y => by rw [key, key]; exact h.swap _ _,
    fun x y => by rw [key, h.zero]; exact ⟨fun e => WideShapes.bytes_inj e, fun e => by rw [e]⟩, fun x y z => by rw [key, key, key]; exact h.tr _ _ _⟩
theorem ordV : Ord3 cmpV := by
  have h2 : Ord3 (fun x y : Int × ByteArray => lex (cmpI x.1 y.1) (cmpS x.2 y.2)) := lex_ord ordI ordS (·.1) (·.2) fun x y e1 e2 => Prod.ext e1 e2
  have h3 : Ord3 (fun x y : V => lex (cmpI x.k y.k) (lex (cmpI x.n y.n) (cmpS x.s y.s))) := lex_ord (γ := V) ordI h2 (·.k) (fun x => (x.n, x.s)) fun x y e1 e2 => by
    obtain ⟨k, n, s⟩ := x
    obtain ⟨k', n', s'⟩ := y
    simp only [Prod.mk.injEq] at e1 e2
    obtain ⟨e2, e3⟩ := e2
    subst e1; subst e2; subst e3; rfl
  have key : cmpV = fun x y : V => lex (cmpI x.k y.k) (lex (cmpI x.n y.n) (cmpS x.s y.s)) := by
    funext x y
    simp only [cmpV, firstNZ, lex]
    by_cases a : cmpS x.s y.s = 0 <;> simp [a]
  rw [key]; exact h3
theorem ordT : Ord3 cmpT := by
  have key : ∀ x y, cmpT x y = lcmp cmpV x y := by
    intro x
    induction x with
    | nil => intro y; cases y <;> rfl
    | cons a r ih =>
      intro y
      cases y with
      | nil => rfl
      | cons b q => simp only [cmpT, lcmp, ih]
  have h := lcmp_ord ordV
  exact ⟨fun x y => by rw [key]; exact h.rng _ _, fun x y => by rw [key, key]; exact h.swap _ _, fun x y => by rw [key]; exact h.zero _ _, fun x y z => by rw [key, key, key]; exact h.tr _ _ _⟩
theorem ordF : Ord3 cmpF := by
  have h3 : Ord3 (fun x y : Fc => lex (cmpS x.p y.p) (cmpT x.a y.a)) := lex_ord (γ := Fc) ordS ordT (·.p) (·.a) fun x y e1 e2 => by
    obtain ⟨p, a⟩ := x
    obtain ⟨p', a'⟩ := y
    simp only at e1 e2
    subst e1; subst e2; rfl
  have key : cmpF = fun x y : Fc => lex (cmpS x.p y.p) (cmpT x.a y.a) := by
    funext x y
    simp only [cmpF, firstNZ, lex]
    by_cases a : cmpT x.a y.a = 0 <;> simp [a]
  rw [key]; exact h3

end Go.Proofs.Ytkdnplebgmmclaa
/- A map's names in order, plainly. No program. -/
namespace Go.Proofs.Ytkdnplebgmmclaa
open Go.RowKit
set_option linter.unusedSimpArgs false
set_option linter.unusedVariables false

theorem list_lt : ∀ a b : List UInt8, a < b ↔ Lib.compareBytes a b < 0
  | [], [] => by simp [Lib.compareBytes]
  | [], _ :: _ => by simp [Lib.compareBytes]
  | _ :: _, [] => by simp [Lib.compareBytes]
  | x :: a, y :: b => by
    rw [List.cons_lt_cons_iff, Lib.compareBytes]
    by_cases h1 : x < y
    · simp [h1]
    · rw [if_neg h1]
      by_cases h2 : y < x
      · rw [if_pos h2]
        have hne : x ≠ y := fun e => by subst e; exact absurd h2 (UInt8.lt_irrefl _)
        simp [h1, hne]
      · rw [if_neg h2]
        have e : x = y := by
          have h3 := UInt8.not_lt.1 h1
          have h4 := UInt8.not_lt.1 h2
          exact UInt8.le_antisymm h4 h3
        subst e
        rw [list_lt a b]
        simp
def bytesOf' (l : List UInt8) : ByteArray := ⟨l.toArray⟩
/-- What mergeSort makes of the names, each of which stands there once, is what sortU makes. -/
theorem merge_names {ss : List (List UInt8)} {N : List ByteArray} (hp : ss.Perm (N.map (·.data.toList))) (hn : N.Nodup) : (ss.mergeSort (fun x y => decide (x ≤ y))).map bytesOf' = sortU cmpS N := by
  have hT : TotC cmpS := ⟨ordS.zero, ordS.swap, fun x y z h1 h2 => ordS.lt h1 (by omega)⟩
  have hperm : (ss.mergeSort (fun x y => decide (x ≤ y))).Perm (N.map (·.data.toList)) := (List.mergeSort_perm _ _).trans hp
  have hid : ∀ b : ByteArray, bytesOf' b.data.toList = b := fun b => rfl
  have hinj : ∀ a b : ByteArray, a.data.toList = b.data.toList → a = b := fun a b h => ByteArray.ext (Array.toList_inj.1 h)
  have hnd : (ss.mergeSort (fun x y => decide (x ≤ y))).Nodup := by
    refine hperm.nodup_iff.2 ?_
    exact (List.pairwise_map.2 (hn.imp fun h e => h (hinj _ _ e)))
  have hst : (ss.mergeSort (fun x y => decide (x ≤ y))).Pairwise (fun x y => (decide (x ≤ y)) = true) := List.pairwise_mergeSort (fun a b c h1 h2 => by
      have h1 := of_decide_eq_true h1
      have h2 := of_decide_eq_true h2
      exact decide_eq_true (List.le_trans h1 h2)) (fun a b => by
      rcases List.le_total a b with h | h <;> simp [h]) _
  refine Up.uniq hT ?_ (sortU_spec hT N).1 fun x => ?_
  · refine List.pairwise_map.2 ((hst.and hnd).imp fun {x y} h => ?_)
    have h1 : x ≤ y := of_decide_eq_true h.1
    have h2 : x < y := by
      rcases List.le_iff_lt_or_eq.1 h1 with h3 | h3
      · exact h3
      · exact absurd h3 h.2
    exact (list_lt x y).1 h2
  · rw [(sortU_spec hT N).2 x, List.mem_map]
    constructor
    · rintro ⟨l, hl, rfl⟩
      obtain ⟨b, hb, rfl⟩ := List.mem_map.1 (hperm.mem_iff.1 hl)
      exact hb
    · intro hx
      exact ⟨x.data.toList, hperm.mem_iff.2 (List.mem_map.2 ⟨x, hx, rfl⟩), rfl⟩
end Go.Proofs.Ytkdnplebgmmclaa
