/- LevT, PartsT, PSpec, OrderP, DOne, LevAny -/
import Derived.Test.YtdjffkkbjbiihaaGreatDoorC23
/- Levels: the rounds end; what they find is the least that holds. No program. -/
namespace Go.Proofs.YtdjffkkbjbiihaaGreatDoor
open Go.RowKit
set_option linter.unusedSimpArgs false
set_option linter.unusedVariables false

def Ed.up (e : Ed) : Nat := if e.strict = true then 1 else 0
/-- Levels that hold along every edge. -/
def Holds (es : List Ed) (v : ByteArray → Nat) : Prop := ∀ e ∈ es, v e.t + e.up ≤ v e.f
theorem wants_up (e : Ed) (n : Nums) : e.wants n = lk0 n e.t + e.up := by
  unfold Ed.wants Ed.up
  split <;> omega
theorem lkN_put {l : Nums} {s u : ByteArray} {k : Nat} : lkN (putN l s k) u = if u = s ∧ (lkN l s).isSome = true then some k else lkN l u := by
  induction l with
  | nil => unfold putN lkN; simp
  | cons x l ih =>
    have e1 : putN (x :: l) s k = (if x.1 = s then (x.1, k) else x) :: putN l s k := rfl
    rw [e1]
    have hc : ∀ (y : ByteArray × Nat) (m : Nums) (z : ByteArray), lkN (y :: m) z = if y.1 = z then some y.2 else lkN m z := fun y m z => by
      unfold lkN
      by_cases e : y.1 = z
      · rw [if_pos e, List.find?_cons_of_pos (by simpa using e)]; rfl
      · rw [if_neg e, List.find?_cons_of_neg (by simpa using e)]
    rw [hc, hc, hc, ih]
    by_cases e2 : x.1 = s
    · rw [if_pos e2, if_pos e2]
      dsimp only
      by_cases e3 : u = s
      · rw [if_pos (e2.trans e3.symm), if_pos ⟨e3, rfl⟩]
      · have hxu : ¬ x.1 = u := fun q => e3 (q.symm.trans e2)
        rw [if_neg hxu, if_neg (fun q => e3 q.1), if_neg (fun q => e3 q.1), if_neg hxu]
    · rw [if_neg e2, if_neg e2]
      by_cases e3 : x.1 = u
      · rw [if_pos e3, if_pos e3, if_neg (fun q => e2 (e3.trans q.1))]
      · rw [if_neg e3, if_neg e3]
theorem lk0_set (l : Nums) (s u : ByteArray) (k : Nat) : lk0 (setN l s k) u = if u = s then k else lk0 l u := by
  unfold setN
  cases hq : lkN l s with
  | none =>
    dsimp only
    unfold lk0 lkN
    rw [List.find?_append]
    by_cases e : u = s
    · rw [if_pos e]
      have hf : (l.find? fun x => decide (x.1 = u)) = none := by
        rw [List.find?_eq_none]
        intro x hx
        rw [decide_eq_true_eq, e]
        exact lkN_none hq x hx
      rw [hf]
      simp [e]
    · rw [if_neg e]
      have : ([(s, k)].find? fun x => decide (x.1 = u)) = none := by
        rw [List.find?_eq_none]
        intro x hx
        rw [List.mem_singleton] at hx
        subst hx
        rw [decide_eq_true_eq]
        exact fun q => e q.symm
      rw [this]
      cases l.find? fun x => decide (x.1 = u) <;> rfl
  | some q =>
    dsimp only
    unfold lk0
    rw [lkN_put]
    by_cases e : u = s
    · rw [if_pos ⟨e, by rw [hq]; rfl⟩, if_pos e]; rfl
    · rw [if_neg (fun q => e q.1), if_neg e]
def Below (v : ByteArray → Nat) (n : Nums) : Prop := (∀ x ∈ n, x.2 ≤ v x.1) ∧ ∀ s, lk0 n s ≤ v s
theorem stepR_below {es : List Ed} {v : ByteArray → Nat} (hv : Holds es v) {st : Nums × Bool} {e : Ed} (he : e ∈ es) (h : Below v st.1) : Below v (stepR st e).1 := by
  unfold stepR
  split
  · have hw : e.wants st.1 ≤ v e.f := by
      rw [wants_up]
      have := hv e he
      have := h.2 e.t
      omega
    refine ⟨fun x hx => ?_, fun s => ?_⟩
    · rcases setN_mem x hx with h1 | rfl
      · exact h.1 x h1
      · exact hw
    · rw [lk0_set]
      split
      · rename_i e1; rw [e1]; exact hw
      · exact h.2 s
  · exact h
def meas (N : List ByteArray) (v : ByteArray → Nat) (n : Nums) : Nat := (N.map fun s => v s - lk0 n s).sum
theorem sum_le {α : Type} {f g : α → Nat} : ∀ {l : List α}, (∀ x ∈ l, f x ≤ g x) → (l.map f).sum ≤ (l.map g).sum
  | [], _ => Nat.le_refl _
  | x :: l, h => by
    rw [List.map_cons, List.map_cons, List.sum_cons, List.sum_cons]
    have := h x List.mem_cons_self
    have := sum_le (l := l) fun y hy => h y (List.mem_cons_of_mem _ hy)
    omega
theorem sum_lt {α : Type} {f g : α → Nat} : ∀ {l : List α}, (∀ x ∈ l, f x ≤ g x) → (∃ x ∈ l, f x < g x) → (l.map f).sum < (l.map g).sum
  | [], _, h => by obtain ⟨x, hx, _⟩ := h; cases hx
  | x :: l, h, h2 => by
    rw [List.map_cons, List.map_cons, List.sum_cons, List.sum_cons]
    have h3 := h x List.mem_cons_self
    have h4 := sum_le (l := l) fun y hy => h y (List.mem_cons_of_mem _ hy)
    obtain ⟨y, hy, hlt⟩ := h2
    rcases List.mem_cons.1 hy with e | hy
    · subst e; omega
    · have := sum_lt (l := l) (fun z hz => h z (List.mem_cons_of_mem _ hz)) ⟨y, hy, hlt⟩
      omega
theorem stepR_meas {N : List ByteArray} {es : List Ed} {v : ByteArray → Nat} (hv : Holds es v) {st : Nums × Bool} {e : Ed} (he : e ∈ es) (hN : e.f ∈ N) (h : Below v st.1) :
    meas N v (stepR st e).1 ≤ meas N v st.1 ∧ ((stepR st e).2 = true → st.2 = false → meas N v (stepR st e).1 < meas N v st.1) ∧ (st.2 = true → (stepR st e).2 = true) := by
  have hb := stepR_below hv he h
  unfold stepR at hb ⊢
  split
  · rename_i hlt
    rw [if_pos hlt] at hb
    have hpt : ∀ s, lk0 st.1 s ≤ lk0 (setN st.1 e.f (e.wants st.1)) s := fun s => by
      rw [lk0_set]
      split
      · rename_i e1; rw [e1]; omega
      · exact Nat.le_refl _
    refine ⟨sum_le fun s _ => by have := hpt s; dsimp only; omega, fun _ _ => sum_lt (fun s _ => by have := hpt s; dsimp only; omega) ⟨e.f, hN, ?_⟩, fun _ => rfl⟩
    have h1 := hb.2 e.f
    rw [lk0_set, if_pos rfl] at h1 ⊢
    omega
  · rename_i hlt
    refine ⟨Nat.le_refl _, fun h1 h2 => ?_, fun h => h⟩
    rw [h2] at h1
    cases h1
theorem round_meas {N : List ByteArray} {es : List Ed} {v : ByteArray → Nat} (hv : Holds es v) (hN : ∀ e ∈ es, e.f ∈ N) : ∀ (l : List Ed) (st : Nums × Bool), (∀ e ∈ l, e ∈ es) → Below v st.1 →
    Below v (l.foldl stepR st).1 ∧ meas N v (l.foldl stepR st).1 ≤ meas N v st.1 ∧ ((l.foldl stepR st).2 = true → st.2 = false → meas N v (l.foldl stepR st).1 < meas N v st.1) ∧ (st.2 = true → (l.foldl stepR st).2 = true)
  | [], st, _, h => ⟨h, Nat.le_refl _, fun h1 h2 => (by rw [List.foldl_nil, h2] at h1; cases h1), fun h => h⟩
  | e :: l, st, hl, h => by
    have he := hl e List.mem_cons_self
    obtain ⟨a1, a2, a3⟩ := stepR_meas (N := N) hv he (hN e he) h
    obtain ⟨b1, b2, b3, b4⟩ := round_meas hv hN l (stepR st e) (fun x hx => hl x (List.mem_cons_of_mem _ hx)) (stepR_below hv he h)
    rw [List.foldl_cons]
    refine ⟨b1, Nat.le_trans b2 a1, fun h1 h2 => ?_, fun h => b4 (a3 h)⟩
    cases hs : (stepR st e).2 with
    | true => exact Nat.lt_of_le_of_lt b2 (a2 hs h2)
    | false => exact Nat.lt_of_lt_of_le (b3 h1 hs) a1
/-- The rounds end where some levels hold. -/
theorem raise_some {N : List ByteArray} {es : List Ed} {v : ByteArray → Nat} (hv : Holds es v) (hN : ∀ e ∈ es, e.f ∈ N) (hB : ∀ s, v s ≤ 100000000) : ∀ (f : Nat) (n : Nums), Below v n → meas N v n < f → ∃ nf, raiseR es f n = some nf
  | 0, n, _, h => by omega
  | f + 1, n, h, hm => by
    obtain ⟨b1, b2, b3, _⟩ := round_meas hv hN es (n, false) (fun e he => he) h
    unfold raiseR
    have hall : (n.all fun x => decide (x.2 ≤ 100000000)) = true := by
      rw [List.all_eq_true]
      intro x hx
      have := h.1 x hx
      have := hB x.1
      rw [decide_eq_true_eq]
      omega
    rw [if_pos hall]
    cases hr : (roundR es n).2 with
    | false => exact ⟨_, by rw [if_neg (by decide)]⟩
    | true =>
      rw [if_pos rfl]
      have hlt := b3 hr rfl
      exact raise_some hv hN hB f _ b1 (by
        have : meas N v (roundR es n).1 < meas N v n := hlt
        omega)
theorem stepR_still {st : Nums × Bool} {e : Ed} (h : (stepR st e).2 = false) : stepR st e = st ∧ lk0 st.1 e.t + e.up ≤ lk0 st.1 e.f := by
  unfold stepR at h ⊢
  split
  · rename_i hlt
    rw [if_pos hlt] at h
    cases h
  · rename_i hlt
    rw [wants_up] at hlt
    exact ⟨rfl, by omega⟩
theorem stepR_true {st : Nums × Bool} {e : Ed} (h : st.2 = true) : (stepR st e).2 = true := by
  unfold stepR
  split
  · rfl
  · exact h
theorem fold_true : ∀ (l : List Ed) {st : Nums × Bool}, st.2 = true → (l.foldl stepR st).2 = true
  | [], st, h => h
  | e :: l, st, h => by rw [List.foldl_cons]; exact fold_true l (stepR_true h)
theorem round_still : ∀ (l : List Ed) (st : Nums × Bool), (l.foldl stepR st).2 = false → l.foldl stepR st = st ∧ ∀ e ∈ l, lk0 st.1 e.t + e.up ≤ lk0 st.1 e.f
  | [], st, _ => ⟨rfl, fun e he => by cases he⟩
  | e :: l, st, h => by
    rw [List.foldl_cons] at h ⊢
    cases hs : (stepR st e).2 with
    | true => rw [fold_true l hs] at h; cases h
    | false =>
      obtain ⟨a, b⟩ := stepR_still hs
      rw [a] at h ⊢
      obtain ⟨c, d⟩ := round_still l st h
      refine ⟨c, fun x hx => ?_⟩
      rcases List.mem_cons.1 hx with q | hx
      · rw [q]; exact b
      · exact d x hx
/-- What the rounds find holds, and is the least that does. -/
theorem raise_least {es : List Ed} : ∀ (f : Nat) (n nf : Nums), raiseR es f n = some nf → Holds es (lk0 nf) ∧ ∀ v, Holds es v → Below v n → ∀ s, lk0 nf s ≤ v s
  | 0, n, nf, h => by cases h
  | f + 1, n, nf, h => by
    unfold raiseR at h
    split at h
    · cases hr : (roundR es n).2 with
      | false =>
        rw [hr, if_neg (by decide)] at h
        obtain ⟨a, b⟩ := round_still es (n, false) hr
        have e1 : (roundR es n).1 = n := by unfold roundR; rw [a]
        have h9 := Option.some.inj h
        rw [e1] at h9
        subst h9
        exact ⟨fun e he => b e he, fun v hv hb s => hb.2 s⟩
      | true =>
        rw [hr, if_pos rfl] at h
        obtain ⟨a, b⟩ := raise_least f _ nf h
        refine ⟨a, fun v hv hb => b v hv ?_⟩
        exact (round_meas (N := es.map (·.f)) hv (fun e he => List.mem_map_of_mem he) es (n, false) (fun e he => he) hb).1
    · cases h
theorem below_nil (v : ByteArray → Nat) : Below v [] := ⟨fun x hx => (by cases hx), fun s => Nat.zero_le _⟩
end Go.Proofs.YtdjffkkbjbiihaaGreatDoor
/- graph.parts, Parts and Levels always tell something; what it is. No program. -/
namespace Go.Proofs.YtdjffkkbjbiihaaGreatDoor
open Go.RowKit
set_option linter.unusedSimpArgs false
set_option linter.unusedVariables false

theorem lowS_in {inn : Nums} {i x : Nat} : ∀ (l : List ByteArray) (acc : List Nat), x ∈ l.foldl (lowS inn i) acc ↔ x ∈ acc ∨ (x ≠ i ∧ ∃ t ∈ l, lk0 inn t = x)
  | [], acc => by simp
  | t :: l, acc => by
    rw [List.foldl_cons, lowS_in l]
    unfold lowS
    by_cases e : lk0 inn t = i
    · rw [if_pos e]
      constructor
      · rintro (q | ⟨q1, u, q2, q3⟩)
        · exact .inl q
        · exact .inr ⟨q1, u, List.mem_cons_of_mem _ q2, q3⟩
      · rintro (q | ⟨q1, u, q2, q3⟩)
        · exact .inl q
        · rcases List.mem_cons.1 q2 with q2 | q2
          · subst q2; exact absurd (q3.symm.trans e) q1
          · exact .inr ⟨q1, u, q2, q3⟩
    · rw [if_neg e, addK_mem]
      constructor
      · rintro ((q | q) | ⟨q1, u, q2, q3⟩)
        · exact .inl q
        · exact .inr ⟨fun h => e (q.symm.trans h), t, List.mem_cons_self, q.symm⟩
        · exact .inr ⟨q1, u, List.mem_cons_of_mem _ q2, q3⟩
      · rintro (q | ⟨q1, u, q2, q3⟩)
        · exact .inl (.inl q)
        · rcases List.mem_cons.1 q2 with q2 | q2
          · subst q2; exact .inl (.inr q3.symm)
          · exact .inr ⟨q1, u, q2, q3⟩
theorem lowR_in {G : Gr} {inn : Nums} {i x : Nat} : ∀ (l : List ByteArray) (acc : List Nat), x ∈ l.foldl (lowR G inn i) acc ↔ x ∈ acc ∨ (x ≠ i ∧ ∃ s ∈ l, ∃ t ∈ sucs G s, lk0 inn t = x)
  | [], acc => by simp
  | s :: l, acc => by
    rw [List.foldl_cons, lowR_in l]
    unfold lowR
    rw [lowS_in]
    constructor
    · rintro ((q | ⟨q1, u, q2, q3⟩) | ⟨q1, v, q2, u, q3, q4⟩)
      · exact .inl q
      · exact .inr ⟨q1, s, List.mem_cons_self, u, q2, q3⟩
      · exact .inr ⟨q1, v, List.mem_cons_of_mem _ q2, u, q3, q4⟩
    · rintro (q | ⟨q1, v, q2, u, q3, q4⟩)
      · exact .inl (.inl q)
      · rcases List.mem_cons.1 q2 with q2 | q2
        · subst q2; exact .inl (.inr ⟨q1, u, q3, q4⟩)
        · exact .inr ⟨q1, v, q2, u, q3, q4⟩
section
variable {G : Gr} {T : TS}
theorem TarOk.sound (h : TarOk G T) (hB : G.names.length ≤ 100000000) : SoundT T := by
  refine ⟨fun p hp => ?_, h.inv.num, ?_⟩
  · obtain ⟨j, hj⟩ := List.getElem?_of_mem hp
    exact (h.inv.outp j p hj).1
  · have h1 := h.inv.olen
    have h2 := h.inv.dn_le
    have h3 : T.dn.length = T.inn.length := List.length_map _
    omega
theorem TarOk.out_at (h : TarOk G T) {j : Nat} (hj : j < T.out.length) {u : ByteArray} : u ∈ T.out.getD j [] ↔ (u, j) ∈ T.inn := by
  rw [List.getD_eq_getElem?_getD, List.getElem?_eq_getElem hj]
  exact (h.inv.outp j _ (List.getElem?_eq_getElem hj)).2.2 u
theorem TarOk.lk (h : TarOk G T) {u : ByteArray} {j : Nat} (hu : (u, j) ∈ T.inn) : lk0 T.inn u = j := by
  unfold lk0
  rw [(lk_iff h.inv.ndI).2 hu]; rfl
theorem TarOk.dnm (h : TarOk G T) {u : ByteArray} {j : Nat} (hu : (u, j) ∈ T.inn) : u ∈ G.names := (h.all u).2 (List.mem_map.2 ⟨_, hu, rfl⟩)
theorem TarOk.low_in (h : TarOk G T) {i x : Nat} (hi : i < T.out.length) : x ∈ lowerP G T i ↔ x ≠ i ∧ ∃ s t, (s, i) ∈ T.inn ∧ t ∈ sucs G s ∧ lk0 T.inn t = x := by
  unfold lowerP
  rw [lowR_in]
  constructor
  · rintro (q | ⟨q1, s, q2, t, q3, q4⟩)
    · cases q
    · exact ⟨q1, s, t, (h.out_at hi).1 q2, q3, q4⟩
  · rintro ⟨q1, s, t, q2, q3, q4⟩
    exact .inr ⟨q1, s, (h.out_at hi).2 q2, t, q3, q4⟩
theorem TarOk.low_lt (h : TarOk G T) (hG : ∀ u ∈ G.names, ∀ t ∈ sucs G u, t ∈ G.names) {i : Nat} (hi : i < T.out.length) : ∀ x ∈ lowerP G T i, x < i := fun x hx => by
  obtain ⟨q1, s, t, q2, q3, q4⟩ := (h.low_in hi).1 hx
  have hs := h.dnm q2
  have := h.down hs (hG s hs t q3) q3
  rw [h.lk q2, q4] at this
  omega
theorem TarOk.head_in (h : TarOk G T) {i : Nat} (hi : i < T.out.length) : (headP T i, i) ∈ T.inn := by
  refine (h.out_at hi).1 ?_
  unfold headP
  have hne : T.out.getD i [] ≠ [] := by
    rw [List.getD_eq_getElem?_getD, List.getElem?_eq_getElem hi]
    exact (h.inv.outp i _ (List.getElem?_eq_getElem hi)).1
  cases hq : T.out.getD i [] with
  | nil => exact absurd hq hne
  | cons a r => exact List.mem_cons_self
theorem TarOk.head_inj (h : TarOk G T) {i j : Nat} (hi : i < T.out.length) (hj : j < T.out.length) (e : headP T i = headP T j) : i = j := by
  have h1 := h.head_in hi
  rw [e] at h1
  exact key_one h.inv.ndI h1 (h.head_in hj)
theorem TarOk.ords (h : TarOk G T) (hG : ∀ u ∈ G.names, ∀ t ∈ sucs G u, t ∈ G.names) (hB : G.names.length ≤ 100000000) : ∃ l, ordP G T T.out.length (waitP G T T.out.length) = some l ∧ OrdOk T.out.length (lowerP G T) (headP T) [] l :=
  ord_some (h.sound hB).len (fun i j hi hj e => h.head_inj hi hj e) (fun i hi => ⟨lowerP_nodup G T i, h.low_lt hG hi⟩) T.out.length [] _
    ⟨fun j _ hj => (by cases hj), fun j hj _ => by
      unfold waitP left
      rw [if_pos hj]
      congr 1
      rw [List.filter_eq_self.2 (fun a _ => by simp)]⟩ List.nodup_nil (fun j hj => by cases hj) (by simp)
end
/-- What graph.parts tells of a program within the bound. -/
theorem tarj_rules {rs : List Ru} (h : Small rs) : ∃ T, tarjT (drawP rs) ((drawP rs).names.length + 1) = some T ∧ TarOk (drawP rs) T :=
  tarj_ok (draw_closed rs) (by have := draw_len h; omega)
/-- Where no strict edge lies within a part, there are levels. -/
theorem levels_rules {rs : List Ru} (h : Small rs) {T : TS} (hT : TarOk (drawP rs) T) (hb : blameE T.inn (edgesP rs) = none) : ∃ f nf, raiseR (edgesP rs) f [] = some nf ∧ Holds (edgesP rs) (lk0 nf) ∧ ∀ v, Holds (edgesP rs) v → ∀ s, lk0 nf s ≤ v s := by
  have hv : Holds (edgesP rs) (lk0 T.inn) := fun e he => by
    have hn := edge_names he
    have hd := hT.down hn.1 hn.2 (edge_suc.2 ⟨e, he, rfl, rfl⟩)
    unfold Ed.up
    split
    · rename_i hs
      have := List.find?_eq_none.1 hb e he
      rw [hs, Bool.true_and, decide_eq_true_eq] at this
      omega
    · omega
  have hB : ∀ s, lk0 T.inn s ≤ 100000000 := fun s => by
    have h1 := (hT.sound (by have := draw_len h; omega)).len
    unfold lk0 lkN
    cases hq : T.inn.find? fun x => decide (x.1 = s) with
    | none => exact Nat.zero_le _
    | some x =>
      have := hT.inv.num x (List.mem_of_find?_eq_some hq)
      show x.2 ≤ _
      omega
  obtain ⟨nf, hf⟩ := raise_some (N := (edgesP rs).map (·.f)) hv (fun e he => List.mem_map_of_mem he) hB (meas ((edgesP rs).map (·.f)) (lk0 T.inn) [] + 1) [] (below_nil _) (by omega)
  obtain ⟨a, b⟩ := raise_least _ _ _ hf
  exact ⟨_, nf, hf, a, fun v hv s => b v hv (below_nil v) s⟩
end Go.Proofs.YtdjffkkbjbiihaaGreatDoor
/- The parts of a graph, from below: what they are, and that there is one such list. No program. -/
namespace Go.Proofs.YtdjffkkbjbiihaaGreatDoor
open Go.RowKit
set_option linter.unusedSimpArgs false
set_option linter.unusedVariables false

/-- A part: names that come to one another, rising. -/
def Cls (N : ByteArray → Prop) (R : ByteArray → ByteArray → Prop) (p : List ByteArray) : Prop :=
  p ≠ [] ∧ Up cmpS p ∧ (∀ u ∈ p, N u) ∧ ∀ u ∈ p, ∀ v, v ∈ p ↔ R u v ∧ R v u
/-- All that a part comes to stands in it or in D. -/
def RdyL (R : ByteArray → ByteArray → Prop) (D p : List ByteArray) : Prop := ∀ u ∈ p, ∀ v, R u v → v ∈ p ∨ v ∈ D
def hdP (p : List ByteArray) : ByteArray := p.headD ⟨#[]⟩
/-- Behind D: each time the ready part with the least first name; in the end all names stand. -/
def PSpec (N : ByteArray → Prop) (R : ByteArray → ByteArray → Prop) : List ByteArray → List (List ByteArray) → Prop
  | D, [] => ∀ u, N u → u ∈ D
  | D, p :: l => Cls N R p ∧ (∀ u ∈ p, u ∉ D) ∧ RdyL R D p ∧ (∀ q, Cls N R q → (∀ u ∈ q, u ∉ D) → RdyL R D q → q = p ∨ cmpS (hdP p) (hdP q) < 0) ∧ PSpec N R (D ++ p) l
theorem PSpec.uniq {N : ByteArray → Prop} {R : ByteArray → ByteArray → Prop} : ∀ {l l' : List (List ByteArray)} {D : List ByteArray}, PSpec N R D l → PSpec N R D l' → l = l'
  | [], [], _, _, _ => rfl
  | [], p :: l, D, h, k => by
    obtain ⟨⟨k1, _, k2, _⟩, k3, _⟩ := k
    obtain ⟨u, hu⟩ := List.exists_mem_of_ne_nil p k1
    exact absurd (h u (k2 u hu)) (k3 u hu)
  | p :: l, [], D, k, h => by
    obtain ⟨⟨k1, _, k2, _⟩, k3, _⟩ := k
    obtain ⟨u, hu⟩ := List.exists_mem_of_ne_nil p k1
    exact absurd (h u (k2 u hu)) (k3 u hu)
  | p :: l, p' :: l', D, h, k => by
    obtain ⟨h1, h2, h3, h4, h5⟩ := h
    obtain ⟨k1, k2, k3, k4, k5⟩ := k
    have e : p' = p := by
      rcases h4 p' k1 k2 k3 with e | e
      · exact e
      · rcases k4 p h1 h2 h3 with e' | e'
        · exact e'.symm
        · have := totS.neg (hdP p) (hdP p')
          omega
    subst e
    rw [PSpec.uniq h5 k5]
theorem PSpec.congr {N N' : ByteArray → Prop} {R R' : ByteArray → ByteArray → Prop} {l : List (List ByteArray)} {D : List ByteArray} (hN : ∀ u, N u ↔ N' u) (hR : ∀ u v, R u v ↔ R' u v) (h : PSpec N R D l) : PSpec N' R' D l := by
  have e1 : N = N' := funext fun u => propext (hN u)
  have e2 : R = R' := funext fun u => funext fun v => propext (hR u v)
  rw [← e1, ← e2]
  exact h
section
variable {G : Gr} {T : TS}
theorem Rch.name (hG : ∀ u ∈ G.names, ∀ t ∈ sucs G u, t ∈ G.names) {s t : ByteArray} (h : Rch G s t) (hs : s ∈ G.names) : t ∈ G.names := h.closed hG hs
theorem TarOk.cls (h : TarOk G T) (hG : ∀ u ∈ G.names, ∀ t ∈ sucs G u, t ∈ G.names) {a : Nat} (ha : a < T.out.length) : Cls (· ∈ G.names) (Rch G) (T.out.getD a []) := by
  have hg : T.out[a]? = some (T.out.getD a []) := by rw [List.getD_eq_getElem?_getD, List.getElem?_eq_getElem ha]; rfl
  obtain ⟨o1, o2, o3⟩ := h.inv.outp a _ hg
  refine ⟨o1, o2, fun u hu => h.dnm ((o3 u).1 hu), fun u hu v => ?_⟩
  have hu' := (o3 u).1 hu
  rw [o3 v]
  constructor
  · intro hv
    exact (h.inv.cmp _ _ _ _ hu' hv).1 rfl
  · rintro ⟨r1, r2⟩
    have hv := h.at (r1.name hG (h.dnm hu'))
    have := (h.inv.cmp _ _ _ _ hu' hv).2 ⟨r1, r2⟩
    rw [this]
    exact hv
theorem TarOk.cls_is (h : TarOk G T) (hG : ∀ u ∈ G.names, ∀ t ∈ sucs G u, t ∈ G.names) {q : List ByteArray} (hq : Cls (· ∈ G.names) (Rch G) q) : ∃ j, j < T.out.length ∧ q = T.out.getD j [] := by
  obtain ⟨q1, q2, q3, q4⟩ := hq
  obtain ⟨u, hu⟩ := List.exists_mem_of_ne_nil q q1
  have hi := h.at (q3 u hu)
  have hj := h.inv.num _ hi
  refine ⟨_, hj, ?_⟩
  obtain ⟨c1, c2, c3, c4⟩ := h.cls hG hj
  have hu2 : u ∈ T.out.getD (lk0 T.inn u) [] := (h.out_at hj).2 hi
  exact Up.uniq totS q2 c2 fun v => (q4 u hu v).trans (c4 u hu2 v).symm
theorem TarOk.pspec (h : TarOk G T) (hG : ∀ u ∈ G.names, ∀ t ∈ sucs G u, t ∈ G.names) : ∀ (l dn : List Nat) (D : List ByteArray), OrdOk T.out.length (lowerP G T) (headP T) dn l → (∀ j ∈ dn, j < T.out.length) → (∀ u, u ∈ D ↔ ∃ j ∈ dn, (u, j) ∈ T.inn) → (∀ u ∈ D, ∀ t ∈ sucs G u, t ∈ D) → PSpec (· ∈ G.names) (Rch G) D (l.map fun a => T.out.getD a [])
  | [], dn, D, ho, hd, hD, hc => fun u hu => (hD u).2 ⟨_, ho _ (h.inv.num _ (h.at hu)), h.at hu⟩
  | a :: l, dn, D, ho, hd, hD, hc => by
    obtain ⟨o1, o2, o3, o4, o5⟩ := ho
    have hp : ∀ u, u ∈ T.out.getD a [] ↔ (u, a) ∈ T.inn := fun u => h.out_at o1
    have hnew : ∀ u ∈ T.out.getD a [], u ∉ D := fun u hu hd' => by
      obtain ⟨j, j1, j2⟩ := (hD u).1 hd'
      have := key_one h.inv.ndI j2 ((hp u).1 hu)
      exact o2 (this ▸ j1)
    have hsu : ∀ u ∈ T.out.getD a [], ∀ t ∈ sucs G u, t ∈ T.out.getD a [] ∨ t ∈ D := fun u hu t ht => by
      have hu' := (hp u).1 hu
      have htn := hG u (h.dnm hu') t ht
      by_cases e : lk0 T.inn t = a
      · exact .inl ((hp t).2 (by have := h.at htn; rwa [e] at this))
      · have := o3 _ ((h.low_in o1).2 ⟨e, u, t, hu', ht, rfl⟩)
        exact .inr ((hD t).2 ⟨_, this, h.at htn⟩)
    refine ⟨h.cls hG o1, hnew, fun u hu v hv => ?_, fun q hq hqd hqr => ?_, ?_⟩
    · refine hv.closed (D := fun x => x ∈ T.out.getD a [] ∨ x ∈ D) (fun x hx t ht => ?_) (.inl hu)
      rcases hx with hx | hx
      · exact hsu x hx t ht
      · exact .inr (hc x hx t ht)
    · obtain ⟨j, j1, rfl⟩ := h.cls_is hG hq
      have hpj : ∀ u, u ∈ T.out.getD j [] ↔ (u, j) ∈ T.inn := fun u => h.out_at j1
      have hjd : j ∉ dn := fun hj => by
        obtain ⟨u, hu⟩ := List.exists_mem_of_ne_nil _ hq.1
        exact hqd u hu ((hD u).2 ⟨j, hj, (hpj u).1 hu⟩)
      have hrd : Ready (lowerP G T) dn j := fun k hk => by
        obtain ⟨k1, s, t, k2, k3, k4⟩ := (h.low_in j1).1 hk
        rcases hqr s ((hpj s).2 k2) t (.one k3) with r | r
        · exact absurd (h.lk ((hpj t).1 r)) (fun e => k1 (k4.symm.trans e))
        · obtain ⟨m, m1, m2⟩ := (hD t).1 r
          have := h.lk m2
          rw [k4] at this
          rw [this]; exact m1
      rcases o4 j j1 hjd hrd with e | e
      · exact .inl (by rw [e])
      · exact .inr e
    · refine TarOk.pspec h hG l (dn ++ [a]) _ o5 (fun j hj => ?_) (fun u => ?_) (fun u hu t ht => ?_)
      · rcases List.mem_append.1 hj with q | q
        · exact hd j q
        · rw [List.mem_singleton] at q; subst q; exact o1
      · rw [List.mem_append, hD, hp]
        constructor
        · rintro (⟨j, j1, j2⟩ | q)
          · exact ⟨j, List.mem_append_left _ j1, j2⟩
          · exact ⟨a, List.mem_append_right _ (List.mem_singleton.2 rfl), q⟩
        · rintro ⟨j, j1, j2⟩
          rcases List.mem_append.1 j1 with q | q
          · exact .inl ⟨j, q, j2⟩
          · rw [List.mem_singleton] at q; subst q; exact .inr j2
      · rcases List.mem_append.1 hu with q | q
        · exact List.mem_append_left _ (hc u q t ht)
        · rcases hsu u q t ht with r | r
          · exact List.mem_append_right _ r
          · exact List.mem_append_left _ r
end
/-- What depend.Parts tells of a program within the bound. -/
theorem parts_rules {rs : List Ru} (h : Small rs) : ∃ T out, tarjT (drawP rs) ((drawP rs).names.length + 1) = some T ∧ TarOk (drawP rs) T ∧ partsP (drawP rs) T = some out ∧ PSpec (· ∈ (drawP rs).names) (Rch (drawP rs)) [] out := by
  obtain ⟨T, h1, h2⟩ := tarj_rules h
  obtain ⟨l, h3, h4⟩ := h2.ords (draw_closed rs) (by have := draw_len h; omega)
  refine ⟨T, _, h1, h2, by unfold partsP; rw [h3]; rfl, h2.pspec (draw_closed rs) l [] [] h4 (fun j hj => by cases hj) (fun u => ?_) (fun u hu => by cases hu)⟩
  constructor
  · intro hu; cases hu
  · rintro ⟨j, hj, _⟩; cases hj
end Go.Proofs.YtdjffkkbjbiihaaGreatDoor
/- Levels and parts hang on which rules there are, not on their order or number. No program. -/
namespace Go.Proofs.YtdjffkkbjbiihaaGreatDoor
open Go.RowKit
set_option linter.unusedSimpArgs false
set_option linter.unusedVariables false

def Ed.tri (e : Ed) : ByteArray × ByteArray × Int := (e.f, e.t, e.k)
def Ru.tris (r : Ru) : List (ByteArray × ByteArray × Int) := (r.b.filter Lt.isA).map fun l => (r.p, l.p, if l.k = 2 then 2 else r.kind)
theorem edges_tris : ∀ (rs : List Ru) (n : Nat), ((rs.zipIdx n).flatMap fun x => x.1.edges (x.2 : Nat)).map Ed.tri = rs.flatMap Ru.tris
  | [], n => rfl
  | r :: rs, n => by
    rw [List.zipIdx_cons, List.flatMap_cons, List.flatMap_cons, List.map_append, edges_tris rs (n + 1)]
    congr 1
    unfold Ru.edges Ru.tris
    rw [List.map_map]
    rfl
theorem edge_tri {rs : List Ru} {x : ByteArray × ByteArray × Int} : (∃ e ∈ edgesP rs, e.tri = x) ↔ ∃ r ∈ rs, x ∈ r.tris := by
  have h : (edgesP rs).map Ed.tri = rs.flatMap Ru.tris := edges_tris rs 0
  rw [← List.mem_flatMap, ← h, List.mem_map]
section
variable {rs rs' : List Ru}
/-- Every edge of the one is, but for its rule's number, an edge of the other. -/
theorem edge_move (hm : ∀ r ∈ rs, r ∈ rs') {e : Ed} (he : e ∈ edgesP rs) : ∃ e' ∈ edgesP rs', e'.f = e.f ∧ e'.t = e.t ∧ e'.k = e.k := by
  obtain ⟨r, hr, hx⟩ := edge_tri.1 ⟨e, he, rfl⟩
  obtain ⟨e', he', hq⟩ := edge_tri.2 ⟨r, hm r hr, hx⟩
  unfold Ed.tri at hq
  injection hq with q1 q2
  injection q2 with q2 q3
  exact ⟨e', he', q1, q2, q3⟩
theorem names_move (hm : ∀ r ∈ rs, r ∈ rs') {s : ByteArray} (hs : s ∈ (drawP rs).names) : s ∈ (drawP rs').names := by
  rw [(draw_ok _).nm] at hs ⊢
  obtain ⟨r, hr, hx⟩ := List.mem_flatMap.1 hs
  exact List.mem_flatMap.2 ⟨r, hm r hr, hx⟩
theorem sucs_move (hm : ∀ r ∈ rs, r ∈ rs') {s t : ByteArray} (h : t ∈ sucs (drawP rs) s) : t ∈ sucs (drawP rs') s := by
  obtain ⟨e, he, rfl, rfl⟩ := edge_suc.1 h
  obtain ⟨e', he', q1, q2, _⟩ := edge_move hm he
  exact edge_suc.2 ⟨e', he', q1, q2⟩
theorem rch_move (hm : ∀ r ∈ rs, r ∈ rs') {s t : ByteArray} (h : Rch (drawP rs) s t) : Rch (drawP rs') s t := by
  induction h with
  | refl s => exact .refl s
  | step h _ ih => exact .step (sucs_move hm h) ih
theorem strict_k {e e' : Ed} (h : e'.k = e.k) : e'.strict = e.strict := by unfold Ed.strict; rw [h]
theorem up_k {e e' : Ed} (h : e'.k = e.k) : e'.up = e.up := by unfold Ed.up; rw [strict_k h]
theorem holds_move (hm : ∀ r ∈ rs, r ∈ rs') {v : ByteArray → Nat} (h : Holds (edgesP rs') v) : Holds (edgesP rs) v := fun e he => by
  obtain ⟨e', he', q1, q2, q3⟩ := edge_move hm he
  have := h e' he'
  rwa [q1, q2, up_k q3] at this
/-- A strict edge on a way round. -/
def RoundE (rs : List Ru) (e : Ed) : Prop := e.strict = true ∧ Rch (drawP rs) e.t e.f
theorem round_move (hm : ∀ r ∈ rs, r ∈ rs') (h : ∃ e ∈ edgesP rs, RoundE rs e) : ∃ e ∈ edgesP rs', RoundE rs' e := by
  obtain ⟨e, he, h1, h2⟩ := h
  obtain ⟨e', he', q1, q2, q3⟩ := edge_move hm he
  exact ⟨e', he', by rw [strict_k q3]; exact h1, by rw [q1, q2]; exact rch_move hm h2⟩
theorem sorted_move (hm : ∀ r, r ∈ rs ↔ r ∈ rs') : (drawP rs).sorted = (drawP rs').sorted :=
  sortU_congr totS fun s => ⟨names_move fun r => (hm r).1, names_move fun r => (hm r).2⟩
/-- The least levels. -/
def LeastL (es : List Ed) (nf : ByteArray → Nat) : Prop := Holds es nf ∧ ∀ v, Holds es v → ∀ s, nf s ≤ v s
theorem least_move (hm : ∀ r, r ∈ rs ↔ r ∈ rs') {nf nf' : ByteArray → Nat} (h : LeastL (edgesP rs) nf) (h' : LeastL (edgesP rs') nf') (s : ByteArray) : nf s = nf' s :=
  Nat.le_antisymm (h.2 nf' (holds_move (fun r => (hm r).1) h'.1) s) (h'.2 nf (holds_move (fun r => (hm r).2) h.1) s)
theorem levels_move (hm : ∀ r, r ∈ rs ↔ r ∈ rs') {nf nf' : ByteArray → Nat} (h : LeastL (edgesP rs) nf) (h' : LeastL (edgesP rs') nf') : (drawP rs).sorted.map (fun s => (s, nf s)) = (drawP rs').sorted.map (fun s => (s, nf' s)) := by
  rw [sorted_move hm]
  exact List.map_congr_left fun s _ => by rw [least_move hm h h' s]
theorem parts_move (hm : ∀ r, r ∈ rs ↔ r ∈ rs') {out out' : List (List ByteArray)} (h : PSpec (· ∈ (drawP rs).names) (Rch (drawP rs)) [] out) (h' : PSpec (· ∈ (drawP rs').names) (Rch (drawP rs')) [] out') : out = out' :=
  PSpec.uniq (h.congr (fun u => ⟨names_move fun r => (hm r).1, names_move fun r => (hm r).2⟩) (fun u v => ⟨rch_move fun r => (hm r).1, rch_move fun r => (hm r).2⟩)) h'
end
/-- Whether a part's numbers are the same is whether there is a way round. -/
theorem round_iff {rs : List Ru} {T : TS} (hT : TarOk (drawP rs) T) {e : Ed} (he : e ∈ edgesP rs) : (e.strict && decide (lk0 T.inn e.f = lk0 T.inn e.t)) = true ↔ RoundE rs e := by
  have hn := edge_names he
  have hft : Rch (drawP rs) e.f e.t := .one (edge_suc.2 ⟨e, he, rfl, rfl⟩)
  rw [Bool.and_eq_true, decide_eq_true_eq, hT.same hn.1 hn.2]
  unfold RoundE
  exact ⟨fun h => ⟨h.1, h.2.2⟩, fun h => ⟨h.1, hft, h.2⟩⟩
theorem find_split {α : Type} {p : α → Bool} : ∀ {l : List α} {x : α}, l.find? p = some x → ∃ a b, l = a ++ x :: b ∧ p x = true ∧ ∀ y ∈ a, p y = false
  | [], x, h => by cases h
  | y :: r, x, h => by
    rw [List.find?_cons] at h
    cases hy : p y with
    | true =>
      rw [hy] at h
      obtain rfl : y = x := by simpa using h
      exact ⟨[], r, rfl, hy, fun z hz => by cases hz⟩
    | false =>
      rw [hy] at h
      obtain ⟨a, b, e, h1, h2⟩ := find_split h
      refine ⟨y :: a, b, by rw [e]; rfl, h1, fun z hz => ?_⟩
      rcases List.mem_cons.1 hz with rfl | hz
      · exact hy
      · exact h2 z hz
end Go.Proofs.YtdjffkkbjbiihaaGreatDoor
/- depend.OneLevel, Plain. -/
namespace Go.Proofs.YtdjffkkbjbiihaaGreatDoor
open Go.RowKit Go.WideMaps Go.Maps
set_option linter.unusedSimpArgs false
set_option linter.unusedVariables false

abbrev tSt : TypeId := 141
def setE (L : List ByteArray) : List (ByteArray × Value) := L.map fun s => (s, .agg #[])
theorem zeroU (w : World) : (zeroValue 101).run Tryz.prog w = .ok (.agg #[]) w := by kernel_rfl
section
variable {w : World} {b : Nat} {L : List ByteArray} {p : ByteArray}
theorem setE_ok (h : ∀ s ∈ L, s.size ≤ 140737488351232) : ∀ q ∈ setE L, q.1.size ≤ maxLen := fun q hq => by
  obtain ⟨s, hs, rfl⟩ := List.mem_map.1 hq
  exact Nat.le_trans (h s hs) (by unfold maxLen; omega)
theorem set_look (h : MapE strV w b (setE L)) (hs : ∀ s ∈ L, s.size ≤ 140737488351232) (hp : p.size ≤ 140737488351232) : (Instr.lookup tSt (.map (some b)) (.string p) true).run Tryz.prog w = .ok (.tuple #[.agg #[], .bool (decide (p ∈ L))]) w := by
  have h1 := (h.look (t := tSt) keyStr (setE_ok hs) Tryz.underlying141 zeroU (x := p) (Nat.le_trans hp (by unfold maxLen; omega))).2
  by_cases e : p ∈ L
  · obtain ⟨i, hi⟩ := List.getElem?_of_mem e
    have hg : getE (setE L) p = some (.agg #[]) := getE_at h.nodup (j := i) (by unfold setE; rw [List.getElem?_map, hi]; rfl)
    rw [hg] at h1
    rw [decide_eq_true e]
    exact h1
  · have hg : getE (setE L) p = none := getE_none fun q hq he => e (by
      obtain ⟨s, hs, rfl⟩ := List.mem_map.1 hq
      rw [← he]; exact hs)
    rw [hg] at h1
    rw [decide_eq_false e]
    exact h1
theorem set_add (h : MapE strV w b (setE L)) (hs : ∀ s ∈ L, s.size ≤ 140737488351232) (hp : p.size ≤ 140737488351232) : ∃ w', (Instr.mapUpdate tSt (.map (some b)) (.string p) (.agg #[])).run Tryz.prog w = .ok () w' ∧ MapE strV w' b (setE (addF L p)) ∧ w.grownBy w' (some b) := by
  have hpm : p.size ≤ maxLen := Nat.le_trans hp (by unfold maxLen; omega)
  by_cases e : p ∈ L
  · obtain ⟨i, hi⟩ := List.getElem?_of_mem e
    have hat : (setE L)[i]? = some (p, .agg #[]) := by unfold setE; rw [List.getElem?_map, hi]; rfl
    obtain ⟨w', h1, h2, h3⟩ := h.put (t := tSt) keyStr (setE_ok hs) Tryz.underlying141 (x := p) hpm hat (.agg #[])
    refine ⟨w', h1, ?_, h3⟩
    have e1 : (setE L).set i (p, .agg #[]) = setE L := by
      refine List.ext_getElem? fun j => ?_
      rw [List.getElem?_set]
      by_cases hj : i = j
      · subst hj
        rw [if_pos rfl, if_pos (List.getElem?_eq_some_iff.1 hat).1, hat]
      · rw [if_neg hj]
    rw [e1] at h2
    unfold addF
    rw [if_pos e]
    exact h2
  · obtain ⟨w', h1, h2, h3⟩ := h.push (t := tSt) keyStr (setE_ok hs) Tryz.underlying141 (x := p) hpm (fun q hq he => e (by
      obtain ⟨s, hs, rfl⟩ := List.mem_map.1 hq
      rw [← he]; exact hs)) (.agg #[])
    refine ⟨w', h1, ?_, h3⟩
    unfold addF
    rw [if_neg e]
    have e1 : setE (L ++ [p]) = setE L ++ [(p, .agg #[])] := by unfold setE; rw [List.map_append]; rfl
    rw [e1]
    exact h2
end
theorem addF_mem {L : List ByteArray} {v x : ByteArray} : x ∈ addF L v ↔ x ∈ L ∨ x = v := by
  unfold addF
  split
  · rename_i h
    constructor
    · exact .inl
    · rintro (h1 | rfl)
      · exact h1
      · exact h
  · rw [List.mem_append, List.mem_singleton]
theorem foldF_mem : ∀ (vs L : List ByteArray) (x : ByteArray), x ∈ vs.foldl addF L ↔ x ∈ L ∨ x ∈ vs
  | [], L, x => by simp
  | v :: r, L, x => by
    rw [List.foldl_cons, foldF_mem r, addF_mem, List.mem_cons, or_assoc]
def headsP (rs : List Ru) : List ByteArray := (rs.map (·.p)).foldl addF []
def Ed.strictIn (e : Ed) (H : List ByteArray) : Bool := decide (e.t ∈ H) && !decide (e.k = 1)
def oneP (rs : List Ru) : Bool := !rs.any Ru.agg && !(edgesP rs).any fun e => e.strictIn (headsP rs)
theorem infoEdZ : (Tryz.prog.info? 92).map (fun i => (i.zero, i.size)) = some (some (.agg #[.string ⟨#[]⟩, .string ⟨#[]⟩, .int .i8 0, .int .i64 0]), 4) := by kernel_rfl
theorem ed_at {M : Nat} {w : World} {A : Option Addr} {n cap : Nat} {xs : List Ed} (h : SlRep 4 M REd w (.slice A n cap) xs) {k : Nat} (hk : k < xs.length) :
    ∃ b off, A = some ⟨b, off, none⟩ ∧ ∀ j v, ([.string (xs[k]).f, .string (xs[k]).t, .int .i8 (xs[k]).k, .int .i64 (xs[k]).r] : List Value)[j]? = some v → w.cell? ⟨b, off + k * 4 + j, none⟩ = some v := by
  obtain ⟨A1, cap1, hv, _, _, h3⟩ := h
  obtain ⟨b, off, cs, hA, hl, hc, hr⟩ := h3 k _ (List.getElem?_eq_getElem hk)
  injection hv with hv _ _
  obtain rfl : cs = _ := hr
  exact ⟨b, off, hv.trans hA, fun j v hj => by rw [Nat.add_assoc]; exact hc j v hj⟩
theorem ed_to (rs : List Ru) (hp : ∀ r ∈ rs, ∀ x ∈ r.b, x.p.size ≤ 140737488351232) : ∀ e ∈ edgesP rs, e.t.size ≤ 140737488351232 := fun e he => by
  unfold edgesP at he
  obtain ⟨⟨r, i⟩, hr, he⟩ := List.mem_flatMap.1 he
  unfold Ru.edges at he
  obtain ⟨x, hx, rfl⟩ := List.mem_map.1 he
  have hr2 : r ∈ rs := by
    have := List.mem_zipIdx hr
    obtain ⟨_, _, h3⟩ := this
    rw [h3]
    exact List.getElem_mem _
  exact hp r hr2 x (List.mem_filter.1 hx).1
theorem rus_ok {M : Nat} {w : World} {v : Value} {rs : List Ru} (h : SlRep 3 M RRu w v rs) : (∀ r ∈ rs, r.p.size ≤ 140737488351232) ∧ ∀ r ∈ rs, ∀ x ∈ r.b, x.p.size ≤ 140737488351232 := by
  refine ⟨fun r hr => ?_, fun r hr x hx => ?_⟩
  · obtain ⟨cs, hv, bv, _, h1, _⟩ := sl_mem h r hr
    exact h1
  · obtain ⟨cs, hv, bv, _, _, _, h2⟩ := sl_mem h r hr
    obtain ⟨cs', hr'⟩ := sl_mem h2 x hx
    obtain ⟨_, _, _, _, _, _, _, _, _, _, _, hc⟩ := lt_cs hr'
    exact hc.pw
set_option maxHeartbeats 4000000 in
set_option maxRecDepth 100000 in
theorem one_any {M : Nat} (A : Option Addr) (c : Nat) (rs : List Ru) (w : World) (h : SlRep 3 M RRu w (.slice A rs.length c) rs) (hM : M ≤ 9223372036854775807) (hS : Small rs) :
    Calls Tryz.prog 28 #[.slice A rs.length c] w fun e w' => e = .returned (.bool (oneP rs)) ∧ Fut w w' := by
  obtain ⟨_, _, hv, hl1, hl2⟩ := h.form
  have hxl : rs.length ≤ 9223372036854775807 := by omega
  have H := Lib.hid h
  have hok := rus_ok h
  have HE := Lib.hid (fun W (hW : Fut w W) => edges_any A c rs W (h.fut RRu.stays hW) hM hS)
  have HO := Lib.hid hok.1
  have HT := Lib.hid (ed_to rs hok.2)
  have HN := Lib.hid hS.edges
  obtain ⟨r0, hr0⟩ : ∃ b, oneP rs = b := ⟨_, rfl⟩
  rw [hr0]
  replace hr0 := Lib.hid hr0
  clear h hS hl1 hl2 hv hok
  have hm := MapE.new (kv := strV) w
  have HF0 := Lib.hid (Fut.alloc w (.map #[] 0))
  have HI := Lib.hid (show MapE strV (w.alloc (.map #[] 0)) w.heap.size (setE (((rs.take 0).map (·.p)).foldl addF [])) from hm)
  clear hm
  have hmm := @run_makeMap Tryz.prog
  go_enter Tryz.func28, Tryz.ntmps28
  go_wp2_with fail
  clear hmm
  go_loopw [13] (fun i wr => ∃ k : Nat, k ≤ rs.length ∧ i = .int .i64 k ∧ Hid (Fut w wr) ∧ Hid (MapE strV wr w.heap.size (setE (((rs.take k).map (·.p)).foldl addF []))) ∧ Hid (∀ r ∈ rs.take k, r.agg = false)) (fun i _ => rs.length - (intOf i).toNat)
  case atStart => exact ⟨0, Nat.zero_le _, rfl, HF0, HI, Lib.hid (fun r hr => by simp at hr)⟩
  case round =>
    obtain ⟨k, hk, rfl, hF, hI, hA⟩ := hrel
    by_cases hlt : k < rs.length
    · have hltI : (k : Int) < rs.length := by omega
      have e0 : (0 : Int) ≤ k ∧ (k : Int) < rs.length := by omega
      obtain ⟨b', off, Ah, ch, Ab, cb, rfl, u0, u1, u2, hp, hh1, hh2⟩ := ru_at H.out hlt
      have hnx := Lib.hid (show ((rs.take (k + 1)).map (·.p)).foldl addF [] = addF (((rs.take k).map (·.p)).foldl addF []) (rs[k]).p by rw [List.take_succ_eq_append_getElem hlt, List.map_append, List.foldl_append]; rfl)
      have htk := Lib.hid (List.take_succ_eq_append_getElem hlt)
      have hmem := Lib.hid (List.getElem_mem hlt)
      have hsz : ∀ s ∈ ((rs.take k).map (·.p)).foldl addF [], s.size ≤ 140737488351232 := fun s hs => by
        rcases (foldF_mem _ _ _).1 hs with hs | hs
        · cases hs
        · obtain ⟨r, hr, rfl⟩ := List.mem_map.1 hs
          exact HO.out r (List.mem_of_mem_take hr)
      generalize rs[k] = r at *
      have hcs9 := Lib.hid (three_cells (hF.out.cell u0) (hF.out.cell u1) (hF.out.cell u2))
      obtain ⟨L, hL⟩ : ∃ L, ((rs.take k).map (·.p)).foldl addF [] = L := ⟨_, rfl⟩
      rw [hL] at hI hnx hsz
      obtain ⟨w2, hw2⟩ : ∃ W, wr.alloc (.cells [.string r.p, .slice Ah r.h.length ch, .slice Ab r.b.length cb].toArray 80) = W := ⟨_, rfl⟩
      have f1 : Fut wr w2 := by rw [← hw2]; exact Fut.alloc _ _
      have hrb : w2.heap[wr.heap.size]? = some (.cells #[.string r.p, .slice Ah r.h.length ch, .slice Ab r.b.length cb] 80 (0, 0)) := by rw [← hw2]; exact heap_alloc_new wr _
      have q0 := cell_at hrb 0 (.string r.p) rfl
      have q1 := cell_at hrb 1 (.slice Ah r.h.length ch) rfl
      have q2 := cell_at hrb 2 (.slice Ab r.b.length cb) rfl
      have hone : ∀ v ∈ ([.string r.p, .slice Ah r.h.length ch, .slice Ab r.b.length cb] : List Value), v.oneCell' = true := fun v hv => by
        simp only [List.mem_cons, List.not_mem_nil, or_false] at hv
        rcases hv with rfl | rfl | rfl <;> rfl
      have F2 := Lib.hid (hF.out.trans f1)
      have HC := Lib.hid (agg_any r Ah Ab ch cb w2 (hh1.fut RAr.stays F2.out))
      have hw2h := Lib.hid hw2
      have hI2 := Lib.hid (hI.out.fut f1)
      have HRB := Lib.hid hrb
      clear hw2 f1 hI u0 u1 u2 hL hrb hh1 hh2
      obtain ⟨g, hg⟩ : ∃ g, r.agg = g := ⟨_, rfl⟩
      rw [hg] at HC
      replace hg := Lib.hid hg
      cases g
      · go_wp2_with (first | (refine wpList_rangeBox [.string r.p, .slice Ah r.h.length ch, .slice Ab r.b.length cb] rfl rfl rfl rfl rfl rfl rfl hcs9.out Tryz.underlying80 infoRu rfl hone rfl rfl hw2h.out ?_))
        refine HC.out.mono ?_
        rintro e w3 ⟨rfl, f3⟩
        have q0' := cell_at (f3.block HRB.out) 0 (.string r.p) rfl
        obtain ⟨w4, hr4, hm4, hg4⟩ := set_add (hI2.out.fut f3) hsz hp
        have O4 : Only (fun k => k = w.heap.size) w3 w4 := Only.grown hg4 fun k hk => (Option.some.inj hk).symm
        have O5 : Only (fun k => w.heap.size ≤ k) w w4 := (Only.fut (F2.out.trans f3)).trans (O4.mono fun k _ hk => by omega)
        have HF4 := Lib.hid (O5.toFut fun k hk => hk)
        have HM4 := Lib.hid (show MapE strV w4 w.heap.size (setE (((rs.take (k + 1)).map (·.p)).foldl addF [])) by rw [hnx.out]; exact hm4)
        have HA4 := Lib.hid (show ∀ r ∈ rs.take (k + 1), r.agg = false from fun x hx => by
          rw [htk.out, List.mem_append] at hx
          rcases hx with hx | hx
          · exact hA.out x hx
          · rw [List.mem_singleton] at hx; subst hx; exact hg.out)
        clear f3 hm4 hg4 O4 O5 hsz hp HC q0 q1 q2
        go_wp2
        go_roundw
        case rel => exact ⟨k + 1, by omega, by go_num, HF4, HM4, HA4⟩
        case measure => simp [intOf] <;> omega
      · obtain rfl : r0 = false := by
          rw [← hr0.out]
          have h9 : rs.any Ru.agg = true := List.any_eq_true.2 ⟨r, hmem.out, hg.out⟩
          unfold oneP
          rw [h9]
          rfl
        go_wp2_with (first | (refine wpList_rangeBox [.string r.p, .slice Ah r.h.length ch, .slice Ab r.b.length cb] rfl rfl rfl rfl rfl rfl rfl hcs9.out Tryz.underlying80 infoRu rfl hone rfl rfl hw2h.out ?_))
        refine HC.out.mono ?_
        rintro e w3 ⟨rfl, f3⟩
        go_wp2
        go_ret
        exact ⟨rfl, F2.out.trans f3⟩
    · obtain rfl : k = rs.length := by omega
      rw [List.take_length] at hI hA
      have hag : rs.any Ru.agg = false := List.any_eq_false.2 fun x hx => by rw [hA.out x hx]; decide
      have hr1 := Lib.hid (show (!(edgesP rs).any fun e => e.strictIn (headsP rs)) = r0 by
        have := hr0.out
        unfold oneP at this
        rw [hag] at this
        exact this)
      have HIm := Lib.hid (show MapE strV wr w.heap.size (setE (headsP rs)) from hI.out)
      have hHs := Lib.hid (show ∀ s ∈ headsP rs, s.size ≤ 140737488351232 from fun s hs => by
        rcases (foldF_mem _ _ _).1 hs with hs | hs
        · cases hs
        · obtain ⟨r, hr, rfl⟩ := List.mem_map.1 hs
          exact HO.out r hr)
      have HC := Lib.hid (HE.out wr hF.out)
      generalize edgesP rs = es at *
      generalize headsP rs = hd at *
      have hFr := Lib.hid hF.out
      clear hI hA hag hr0 HE HI HF0 hF
      obtain ⟨wo, hwo⟩ : ∃ x, x = wr := ⟨_, rfl⟩
      subst hwo
      go_wp2_with fail
      refine HC.out.mono ?_
      rintro e w3 ⟨v, rfl, ho, f3⟩
      obtain ⟨Ae, ce, rfl, _, _⟩ := ho.rep.form
      have hn := HN.out
      have HOw := Lib.hid ho
      have HM3 := Lib.hid (HIm.out.fut f3)
      have HF3 := Lib.hid (hFr.out.trans f3)
      clear ho f3 HC
      go_wp2_with fail
      go_loopw [28] (fun i W => ∃ k : Nat, k ≤ es.length ∧ i = .int .i64 k ∧ Hid (Fut w3 W) ∧ Hid (∀ e ∈ es.take k, e.strictIn hd = false)) (fun i _ => es.length - (intOf i).toNat)
      case atStart => exact ⟨0, Nat.zero_le _, rfl, Lib.hid (Fut.refl _), Lib.hid (fun r hr => by simp at hr)⟩
      case round =>
        obtain ⟨k, hk, rfl, hF, hA⟩ := hrel
        by_cases hlt : k < es.length
        · have hltI : (k : Int) < es.length := by omega
          have e0 : (0 : Int) ≤ k ∧ (k : Int) < es.length := by omega
          obtain ⟨b', off, rfl, hcs⟩ := ed_at (HOw.out.fut REd.stays hF.out).rep hlt
          have htk := Lib.hid (List.take_succ_eq_append_getElem hlt)
          have hmem := Lib.hid (List.getElem_mem hlt)
          have hets := HT.out _ hmem.out
          generalize es[k] = x at *
          obtain ⟨w4, hw4⟩ : ∃ W, wr.alloc (.cells [.string x.f, .string x.t, .int .i8 x.k, .int .i64 x.r].toArray 92) = W := ⟨_, rfl⟩
          have f1 : Fut wr w4 := by rw [← hw4]; exact Fut.alloc _ _
          have hrb : w4.heap[wr.heap.size]? = some (.cells #[.string x.f, .string x.t, .int .i8 x.k, .int .i64 x.r] 92 (0, 0)) := by rw [← hw4]; exact heap_alloc_new wr _
          have q1 := cell_at hrb 1 (.string x.t) rfl
          have f2 := Fut.alloc w4 (.cells #[] 101)
          have q2 := f2.cell (cell_at hrb 2 (.int .i8 x.k) rfl)
          have hL := set_look (HM3.out.fut (hF.out.trans f1)) hHs.out hets
          have hone : ∀ v ∈ ([.string x.f, .string x.t, .int .i8 x.k, .int .i64 x.r] : List Value), v.oneCell' = true := fun v hv => by
            simp only [List.mem_cons, List.not_mem_nil, or_false] at hv
            rcases hv with rfl | rfl | rfl | rfl <;> rfl
          have hw4h := Lib.hid hw4
          have hcs9 := Lib.hid hcs
          have FN := Lib.hid ((hF.out.trans f1).trans f2)
          clear hw4 f1 f2 hrb hcs hets
          have hst : x.strictIn hd = (decide (x.t ∈ hd) && !decide (x.k = 1)) := rfl
          have next : x.strictIn hd = false → Hid (∀ e ∈ es.take (k + 1), e.strictIn hd = false) := fun hx => Lib.hid fun y hy => by
            rw [htk.out, List.mem_append] at hy
            rcases hy with hy | hy
            · exact hA.out y hy
            · rw [List.mem_singleton] at hy; subst hy; exact hx
          by_cases e1 : x.t ∈ hd
          · rw [decide_eq_true e1] at hL hst
            by_cases e2 : x.k = 1
            · have HA4 := next (by rw [hst, e2]; rfl)
              clear next hst e1
              go_wp2_with (first | (refine wpList_rangeBox [.string x.f, .string x.t, .int .i8 x.k, .int .i64 x.r] rfl rfl rfl rfl rfl rfl rfl hcs9.out Tryz.underlying92 infoEdZ rfl hone rfl rfl hw4h.out ?_))
              go_roundw
              case rel => exact ⟨k + 1, by omega, by go_num, FN, HA4⟩
              case measure => simp [intOf] <;> omega
            · obtain rfl : r0 = false := by
                rw [← hr1.out]
                have h9 : (es.any fun e => e.strictIn hd) = true := List.any_eq_true.2 ⟨x, hmem.out, by rw [hst, decide_eq_false e2]; rfl⟩
                rw [h9]; rfl
              clear next hst e1
              go_wp2_with (first | (refine wpList_rangeBox [.string x.f, .string x.t, .int .i8 x.k, .int .i64 x.r] rfl rfl rfl rfl rfl rfl rfl hcs9.out Tryz.underlying92 infoEdZ rfl hone rfl rfl hw4h.out ?_))
              go_ret
              exact ⟨rfl, HF3.out.trans FN.out⟩
          · rw [decide_eq_false e1] at hL hst
            have HA4 := next (by rw [hst]; rfl)
            clear next hst e1
            go_wp2_with (first | (refine wpList_rangeBox [.string x.f, .string x.t, .int .i8 x.k, .int .i64 x.r] rfl rfl rfl rfl rfl rfl rfl hcs9.out Tryz.underlying92 infoEdZ rfl hone rfl rfl hw4h.out ?_))
            go_roundw
            case rel => exact ⟨k + 1, by omega, by go_num, FN, HA4⟩
            case measure => simp [intOf] <;> omega
        · obtain rfl : k = es.length := by omega
          rw [List.take_length] at hA
          obtain rfl : r0 = true := by
            rw [← hr1.out]
            have h9 : (es.any fun e => e.strictIn hd) = false := List.any_eq_false.2 fun x hx => by rw [hA.out x hx]; decide
            rw [h9]; rfl
          go_wp2
          go_ret
          exact ⟨rfl, HF3.out.trans hF.out⟩
end Go.Proofs.YtdjffkkbjbiihaaGreatDoor
/- What depend.Levels and depend.Parts tell of any program within the bound. -/
namespace Go.Proofs.YtdjffkkbjbiihaaGreatDoor
open Go.RowKit Go.WideMaps Go.Maps
set_option linter.unusedSimpArgs false
set_option linter.unusedVariables false

theorem levelsAll_any {M : Nat} (A : Option Addr) (c : Nat) (rs : List Ru) (w : World) (h : SlRep 3 M RRu w (.slice A rs.length c) rs) (hM : M ≤ 9223372036854775807) (hS : Small rs) :
    Calls Tryz.prog 8 #[.agg #[.slice A rs.length c]] w fun e w' =>
      ((∃ a x b, edgesP rs = a ++ x :: b ∧ RoundE rs x ∧ (∀ y ∈ a, ¬ RoundE rs y) ∧ e = .returned (.tuple #[.slice none 0 0, .int .i64 x.r, .int .i64 x.errno])) ∨
        ((∀ y ∈ edgesP rs, ¬ RoundE rs y) ∧ ∃ nf v, LeastL (edgesP rs) nf ∧ e = .returned (.tuple #[v, .int .i64 0, .int .i64 0]) ∧ OwnL 2 w.heap.size tLev RLv w' v ((drawP rs).sorted.map fun s => (s, nf s)))) ∧ Fut w w' := by
  obtain ⟨T, hT, hO⟩ := tarj_rules hS
  have hl : (drawP rs).length ≤ 100000000 := by
    have h1 := draw_len hS
    have h2 : (drawP rs).names.length = (drawP rs).length := List.length_map _
    omega
  cases hb : blameE T.inn (edgesP rs) with
  | some x =>
    refine (levelsB_any A c rs w h hM hS _ T hT hl x hb).mono ?_
    rintro e w' ⟨he, hf⟩
    obtain ⟨a, b, e1, e2, e3⟩ := find_split hb
    have hin : ∀ y ∈ a ++ x :: b, y ∈ edgesP rs := fun y hy => by rw [e1]; exact hy
    refine ⟨.inl ⟨a, x, b, e1, (round_iff hO (hin x (by simp))).1 e2, fun y hy hr => ?_, he⟩, hf⟩
    have h1 := (round_iff hO (hin y (by simp [hy]))).2 hr
    rw [e3 y hy] at h1
    cases h1
  | none =>
    obtain ⟨f, nf, h1, h2, h3⟩ := levels_rules hS hO hb
    refine (levelsG_any A c rs w h hM hS _ T hT hl hb nf f h1).mono ?_
    rintro e w' ⟨v, he, ho, hf⟩
    refine ⟨.inr ⟨fun y hy hr => ?_, lk0 nf, v, ⟨h2, h3⟩, he, ho⟩, hf⟩
    have h4 := List.find?_eq_none.1 hb y hy
    exact h4 ((round_iff hO hy).2 hr)
theorem names_ok {M : Nat} {w : World} {v : Value} {rs : List Ru} (h : SlRep 3 M RRu w v rs) : ∀ s ∈ (drawP rs).names, s.size ≤ 140737488351232 := fun s hs => by
  obtain ⟨h1, h2⟩ := rus_ok h
  rw [(draw_ok rs).nm] at hs
  obtain ⟨r, hr, hx⟩ := List.mem_flatMap.1 hs
  unfold Ru.nN at hx
  rcases List.mem_cons.1 hx with rfl | hx
  · exact h1 r hr
  · obtain ⟨l, hl, rfl⟩ := List.mem_map.1 hx
    exact h2 r hr l (List.mem_filter.1 hl).1
theorem partsAll_any {M : Nat} (A : Option Addr) (c : Nat) (rs : List Ru) (w : World) (h : SlRep 3 M RRu w (.slice A rs.length c) rs) (hM : M ≤ 9223372036854775807) (hS : Small rs) :
    Calls Tryz.prog 10 #[.agg #[.slice A rs.length c]] w fun e w' => ∃ v out, e = .returned v ∧ PSpec (· ∈ (drawP rs).names) (Rch (drawP rs)) [] out ∧ OwnL 1 w.heap.size 94 (RLs (.slice none 0 0)) w' v out ∧ Fut w w' := by
  obtain ⟨T, out, hT, hO, hp, hs⟩ := parts_rules hS
  have h0 := draw_len hS
  have hl : (drawP rs).length ≤ 100000000 := by
    have h2 : (drawP rs).names.length = (drawP rs).length := List.length_map _
    omega
  refine (partsR_any A c rs w h hM hS _ T hT hl (hO.sound (by omega)) (fun p hp x hx => ?_) out hp).mono ?_
  · obtain ⟨j, hj⟩ := List.getElem?_of_mem hp
    have h1 := ((hO.inv.outp j p hj).2.2 x).1 hx
    exact names_ok h x (hO.dnm h1)
  · rintro e w' ⟨v, he, ho, hf⟩
    exact ⟨v, out, he, hs, ho, hf⟩
end Go.Proofs.YtdjffkkbjbiihaaGreatDoor
