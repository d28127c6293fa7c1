/- Lists in order, each once: plain laws, generic in the comparison. No program. -/
import Derived.Test.YtcekphjcmippoaaRep
import Derived.Sort.Statements
namespace Go.Proofs.Ytcekphjcmippoaa
open Go.RowKit
set_option linter.unusedSimpArgs false
set_option linter.unusedVariables false

/-- A comparison that is an order. -/
structure TotC {α : Type} (c : α → α → Int) : Prop where
  eq0 : ∀ x y, c x y = 0 ↔ x = y
  neg : ∀ x y, c y x = - c x y
  trans : ∀ x y z, c x y < 0 → c y z < 0 → c x z < 0
section
variable {α : Type} {c : α → α → Int}
def Up (c : α → α → Int) (l : List α) : Prop := l.Pairwise fun x y => c x y < 0
/-- These in order, each once. -/
def UpOf (c : α → α → Int) (l xs : List α) : Prop := Up c xs ∧ ∀ x, x ∈ xs ↔ x ∈ l
theorem TotC.irr (h : TotC c) (x : α) : ¬ c x x < 0 := by have := (h.eq0 x x).2 rfl; omega
theorem Up.uniq (h : TotC c) : ∀ {l m : List α}, Up c l → Up c m → (∀ x, x ∈ l ↔ x ∈ m) → l = m
  | [], [], _, _, _ => rfl
  | [], y :: m, _, _, e => by have := (e y).2 (by simp); simp at this
  | x :: l, [], _, _, e => by have := (e x).1 (by simp); simp at this
  | x :: l, y :: m, hl, hm, e => by
    have hl' := List.pairwise_cons.1 hl
    have hm' := List.pairwise_cons.1 hm
    have hxy : x = y := by
      have h1 := (e x).1 (by simp)
      have h2 := (e y).2 (by simp)
      rcases List.mem_cons.1 h1 with h1 | h1
      · exact h1
      · rcases List.mem_cons.1 h2 with h2 | h2
        · exact h2.symm
        · have a := hm'.1 x h1
          have b := hl'.1 y h2
          have := h.neg x y; omega
    subst hxy
    rw [Up.uniq h hl'.2 hm'.2 fun z => ?_]
    have hz := e z
    constructor
    · intro hz1
      rcases List.mem_cons.1 (hz.1 (List.mem_cons_of_mem _ hz1)) with e1 | e1
      · subst e1; exact absurd (hl'.1 z hz1) (h.irr z)
      · exact e1
    · intro hz1
      rcases List.mem_cons.1 (hz.2 (List.mem_cons_of_mem _ hz1)) with e1 | e1
      · subst e1; exact absurd (hm'.1 z hz1) (h.irr z)
      · exact e1
theorem UpOf.uniq (h : TotC c) {l m xs ys : List α} (hx : UpOf c l xs) (hy : UpOf c m ys) (hm : ∀ x, x ∈ l ↔ x ∈ m) : xs = ys :=
  Up.uniq h hx.1 hy.1 fun x => (hx.2 x).trans ((hm x).trans (hy.2 x).symm)

/-- Laid in at its place, if it is not there. -/
def insU (c : α → α → Int) (x : α) : List α → List α
  | [] => [x]
  | y :: r => if c x y < 0 then x :: y :: r else if c x y = 0 then y :: r else y :: insU c x r
def sortU (c : α → α → Int) (l : List α) : List α := l.foldr (insU c) []
theorem insU_mem (h : TotC c) (x z : α) : ∀ l : List α, z ∈ insU c x l ↔ z = x ∨ z ∈ l
  | [] => by simp [insU]
  | y :: r => by
    unfold insU
    split
    · simp
    · split
      · rename_i h1 h2
        have := (h.eq0 x y).1 h2
        subst this
        simp
      · rw [List.mem_cons, insU_mem h x z r, List.mem_cons]
        constructor
        · rintro (h | h | h) <;> simp [h]
        · rintro (h | h | h) <;> simp [h]
theorem insU_up (h : TotC c) (x : α) : ∀ l : List α, Up c l → Up c (insU c x l)
  | [], _ => by simp [insU, Up]
  | y :: r, hl => by
    have hl' := List.pairwise_cons.1 hl
    unfold insU
    split
    · rename_i h1
      refine List.pairwise_cons.2 ⟨fun z hz => ?_, hl⟩
      rcases List.mem_cons.1 hz with rfl | hz
      · exact h1
      · exact h.trans _ _ _ h1 (hl'.1 z hz)
    · split
      · exact hl
      · rename_i h1 h2
        refine List.pairwise_cons.2 ⟨fun z hz => ?_, insU_up h x r hl'.2⟩
        rcases (insU_mem h x z r).1 hz with rfl | hz
        · have := h.neg y z; omega
        · exact hl'.1 z hz
theorem sortU_spec (h : TotC c) : ∀ l : List α, UpOf c l (sortU c l)
  | [] => ⟨by simp [sortU, Up], by simp [sortU]⟩
  | x :: l => by
    obtain ⟨h1, h2⟩ := sortU_spec h l
    refine ⟨insU_up h x _ h1, fun z => ?_⟩
    show z ∈ insU c x (sortU c l) ↔ _
    rw [insU_mem h, h2, List.mem_cons]
theorem UpOf.eq (h : TotC c) {l xs : List α} (hx : UpOf c l xs) : xs = sortU c l := hx.uniq h (sortU_spec h l) fun _ => Iff.rfl
theorem sortU_congr (h : TotC c) {l m : List α} (hm : ∀ x, x ∈ l ↔ x ∈ m) : sortU c l = sortU c m := (sortU_spec h l).uniq h (sortU_spec h m) hm

/-- One more behind. -/
theorem Up.snoc {xs : List α} {x : α} (h : Up c xs) (hx : ∀ y ∈ xs, c y x < 0) : Up c (xs ++ [x]) :=
  List.pairwise_append.2 ⟨h, by simp, fun a ha b hb => by simp at hb; subst hb; exact hx a ha⟩
/-- Rising, equals behind one another. -/
def Sorted (c : α → α → Int) (l : List α) : Prop := l.Pairwise fun x y => ¬ c y x < 0
/-- What is kept of a rising list: what is not like the one ahead. -/
theorem UpOf.keep (h : TotC c) {t xs : List α} {k : Nat} (hs : Sorted c t) (hk : k < t.length) (hx : UpOf c (t.take k) xs) (hn : k = 0 ∨ ∃ hk0 : k - 1 < t.length, c t[k - 1] t[k] ≠ 0) : UpOf c (t.take (k + 1)) (xs ++ [t[k]]) := by
  refine ⟨hx.1.snoc fun y hy => ?_, fun z => ?_⟩
  · have hy' := (hx.2 y).1 hy
    rcases hn with rfl | ⟨hk0, hn⟩
    · simp at hy'
    · obtain ⟨i, hi⟩ := List.getElem?_of_mem hy'
      have hik : i < k := by
        have := (List.getElem?_eq_some_iff.1 hi).1
        rw [List.length_take] at this; omega
      rw [List.getElem?_take, if_pos hik, List.getElem?_eq_getElem (by omega)] at hi
      have hi := Option.some.inj hi
      have hp := List.pairwise_iff_getElem.1 hs
      have h1 : c t[k - 1] t[k] < 0 := by
        have := hp (k - 1) k hk0 hk (by omega)
        have := h.neg t[k - 1] t[k]; omega
      by_cases hik' : i = k - 1
      · subst hik'; rw [← hi]; exact h1
      · have h2 := hp i (k - 1) (by omega) hk0 (by omega)
        rw [hi] at h2
        by_cases e : c y t[k - 1] = 0
        · rw [(h.eq0 _ _).1 e]; exact h1
        · exact h.trans _ _ _ (by have := h.neg y t[k - 1]; omega) h1
  · rw [List.take_add_one, List.getElem?_eq_getElem hk]
    simp only [Option.toList, List.mem_append, hx.2 z]
theorem UpOf.drop (h : TotC c) {t xs : List α} {k : Nat} (hk : k < t.length) (hx : UpOf c (t.take k) xs) (h0 : 0 < k) (hn : c (t[k - 1]'(by omega)) t[k] = 0) : UpOf c (t.take (k + 1)) xs := by
  refine ⟨hx.1, fun z => ?_⟩
  have e := (h.eq0 _ _).1 hn
  rw [List.take_add_one, List.getElem?_eq_getElem hk, hx.2 z]
  simp only [Option.toList, List.mem_append, List.mem_singleton]
  constructor
  · exact .inl
  · rintro (h | rfl)
    · exact h
    · rw [← e]
      refine List.mem_of_getElem? (i := k - 1) ?_
      rw [List.getElem?_take, if_pos (by omega), List.getElem?_eq_getElem (by omega)]

/-- Two rising lists, joined from the front: what is out, and what is left of both. -/
structure Join (c : α → α → Int) (a b out ra rb : List α) : Prop where
  up : Up c out
  ua : Up c ra
  ub : Up c rb
  la : ∀ x ∈ out, ∀ y ∈ ra, c x y < 0
  lb : ∀ x ∈ out, ∀ y ∈ rb, c x y < 0
  mem : ∀ x, (x ∈ out ∨ x ∈ ra ∨ x ∈ rb) ↔ (x ∈ a ∨ x ∈ b)
theorem Join.start {a b : List α} (ha : Up c a) (hb : Up c b) : Join c a b [] a b :=
  ⟨by simp [Up], ha, hb, by simp, by simp, by simp⟩
theorem Join.left (h : TotC c) {a b out ra rb : List α} {x : α} (hj : Join c a b out (x :: ra) rb) (hx : ∀ y, rb.head? = some y → c x y < 0) : Join c a b (out ++ [x]) ra rb := by
  have ua := List.pairwise_cons.1 hj.ua
  have hxb : ∀ y ∈ rb, c x y < 0 := fun y hy => by
    cases rb with
    | nil => simp at hy
    | cons z r =>
      have hz := hx z rfl
      rcases List.mem_cons.1 hy with rfl | hy
      · exact hz
      · exact h.trans _ _ _ hz ((List.pairwise_cons.1 hj.ub).1 y hy)
  refine ⟨hj.up.snoc fun y hy => hj.la y hy x (by simp), ua.2, hj.ub, fun y hy z hz => ?_, fun y hy z hz => ?_, fun z => ?_⟩
  · rcases List.mem_append.1 hy with hy | hy
    · exact hj.la y hy z (List.mem_cons_of_mem _ hz)
    · simp at hy; subst hy; exact ua.1 z hz
  · rcases List.mem_append.1 hy with hy | hy
    · exact hj.lb y hy z hz
    · simp at hy; subst hy; exact hxb z hz
  · rw [← hj.mem z]; simp only [List.mem_append, List.mem_cons, List.not_mem_nil, or_false]
    constructor
    · rintro ((h | h) | h | h) <;> simp [h]
    · rintro (h | (h | h) | h) <;> simp [h]
theorem Join.swap {a b out ra rb : List α} (hj : Join c a b out ra rb) : Join c b a out rb ra :=
  ⟨hj.up, hj.ub, hj.ua, hj.lb, hj.la, fun x => by
    have := hj.mem x
    constructor
    · intro hx; exact (this.1 (by rcases hx with h | h | h <;> simp [h])).symm
    · intro hx; rcases this.2 hx.symm with h | h | h <;> simp [h]⟩
theorem Join.right (h : TotC c) {a b out ra rb : List α} {x : α} (hj : Join c a b out ra (x :: rb)) (hx : ∀ y, ra.head? = some y → c x y < 0) : Join c a b (out ++ [x]) ra rb :=
  (Join.left h hj.swap hx).swap
theorem Join.both (h : TotC c) {a b out ra rb : List α} {x y : α} (hj : Join c a b out (x :: ra) (y :: rb)) (hxy : c x y = 0) : Join c a b (out ++ [x]) ra rb := by
  have e := (h.eq0 _ _).1 hxy
  subst e
  have ua := List.pairwise_cons.1 hj.ua
  have ub := List.pairwise_cons.1 hj.ub
  refine ⟨hj.up.snoc fun y hy => hj.la y hy x (by simp), ua.2, ub.2, fun y hy z hz => ?_, fun y hy z hz => ?_, fun z => ?_⟩
  · rcases List.mem_append.1 hy with hy | hy
    · exact hj.la y hy z (List.mem_cons_of_mem _ hz)
    · simp at hy; subst hy; exact ua.1 z hz
  · rcases List.mem_append.1 hy with hy | hy
    · exact hj.lb y hy z (List.mem_cons_of_mem _ hz)
    · simp at hy; subst hy; exact ub.1 z hz
  · rw [← hj.mem z]; simp only [List.mem_append, List.mem_cons, List.not_mem_nil, or_false]
    constructor
    · rintro ((h | h) | h | h) <;> simp [h]
    · rintro (h | (h | h) | h | h) <;> simp [h]
theorem Join.done {a b out : List α} (hj : Join c a b out [] []) : UpOf c (a ++ b) out :=
  ⟨hj.up, fun x => by have := hj.mem x; simpa using this⟩
/-- .. of two halves, each in order. -/
theorem UpOf.join (h : TotC c) {l m a b out : List α} (ha : UpOf c l a) (hb : UpOf c m b) (hj : Join c a b out [] []) : UpOf c (l ++ m) out :=
  ⟨hj.done.1, fun x => by rw [hj.done.2 x, List.mem_append, List.mem_append, ha.2, hb.2]⟩

theorem TotC.swo (h : TotC c) : Go.Sort.SWO (fun x y => decide (c x y < 0)) where
  irrefl x := by simpa using h.irr x
  trans x y z h1 h2 := by
    simp only [decide_eq_true_eq] at *
    exact h.trans _ _ _ h1 h2
  ntrans x y z h1 h2 := by
    simp only [decide_eq_false_iff_not] at *
    intro h3
    by_cases e : c x y = 0
    · rw [(h.eq0 _ _).1 e] at h3; exact h2 h3
    · by_cases e' : c y z = 0
      · rw [← (h.eq0 _ _).1 e'] at h3; exact h1 h3
      · have h4 := h.trans z y x (by have := h.neg y z; omega) (by have := h.neg x y; omega)
        have := h.neg x z; omega
end
end Go.Proofs.Ytcekphjcmippoaa
