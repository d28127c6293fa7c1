/- Parts. -/
import Derived.Sort.Statements
import Derived.Maps.Keyed
import Derived.Maps.Own
import Derived.Maps.OwnSet
import Derived.DeepKeys4
import Derived.Shelf.SlIter.Nil
import Derived.Shelf.SortM.Plain
import Derived.Shelf.SortM.SortNone
import Derived.Ground.GgzProg
import Derived.Ground.SlgmProg
import Derived.Test.YtdjffkkbjbiihaaGreatDoorProg
import Derived.Test.YtdjffkkbjbiihaaGreatDoorE09
set_option linter.unusedSimpArgs false
set_option linter.unusedVariables false
namespace Go.Proofs.YtdjffkkbjbiihaaGreatDoor
open Go.RowKit
structure TotC {α : Type} (c : α → α → Int) : Prop where
 eq0 : ∀ x y, c x y = 0 ↔ x = y
 neg : ∀ x y, c y x = - c x y
 trans : ∀ x y z, c x y < 0 → c y z < 0 → c x z < 0
section
variable {α : Type} {c : α → α → Int}
def Up (c : α → α → Int) (l : List α) : Prop := l.Pairwise fun x y => c x y < 0
def UpOf (c : α → α → Int) (l xs : List α) : Prop := Up c xs ∧ ∀ x, x ∈ xs ↔ x ∈ l
theorem TotC.irr (h : TotC c) (x : α) : ¬ c x x < 0 := by have := (h.eq0 x x).2 rfl; omega
theorem Up.uniq (h : TotC c) : ∀ {l m : List α}, Up c l → Up c m → (∀ x, x ∈ l ↔ x ∈ m) → l = m
 | [], [], _, _, _ => rfl
 | [], y :: m, _, _, e => by have := (e y).2 (by simp); simp at this
 | x :: l, [], _, _, e => by have := (e x).1 (by simp); simp at this
 | x :: l, y :: m, hl, hm, e => by
  have hl' := List.pairwise_cons.1 hl
  have hm' := List.pairwise_cons.1 hm
  have hxy : x = y := by
   have h1 := (e x).1 (by simp)
   have h2 := (e y).2 (by simp)
   rcases List.mem_cons.1 h1 with h1 | h1
   ·exact h1
   ·rcases List.mem_cons.1 h2 with h2 | h2
    ·exact h2.symm
    ·have a := hm'.1 x h1
     have b := hl'.1 y h2
     have := h.neg x y; omega
  subst hxy
  rw [Up.uniq h hl'.2 hm'.2 fun z => ?_]
  have hz := e z
  constructor
  ·intro hz1
   rcases List.mem_cons.1 (hz.1 (List.mem_cons_of_mem _ hz1)) with e1 | e1
   ·subst e1; exact absurd (hl'.1 z hz1) (h.irr z)
   ·exact e1
  ·intro hz1
   rcases List.mem_cons.1 (hz.2 (List.mem_cons_of_mem _ hz1)) with e1 | e1
   ·subst e1; exact absurd (hm'.1 z hz1) (h.irr z)
   ·exact e1
theorem UpOf.uniq (h : TotC c) {l m xs ys : List α} (hx : UpOf c l xs) (hy : UpOf c m ys) (hm : ∀ x, x ∈ l ↔ x ∈ m) : xs = ys :=
 Up.uniq h hx.1 hy.1 fun x => (hx.2 x).trans ((hm x).trans (hy.2 x).symm)
def insU (c : α → α → Int) (x : α) : List α → List α
 | [] => [x]
 | y :: r => if c x y < 0 then x :: y :: r else if c x y = 0 then y :: r else y :: insU c x r
def sortU (c : α → α → Int) (l : List α) : List α := l.foldr (insU c) []
theorem insU_mem (h : TotC c) (x z : α) : ∀ l : List α, z ∈ insU c x l ↔ z = x ∨ z ∈ l
 | [] => by simp [insU]
 | y :: r => by
  unfold insU
  split
  ·simp
  ·split
   ·rename_i h1 h2
    have := (h.eq0 x y).1 h2
    subst this
    simp
   ·rw [List.mem_cons, insU_mem h x z r, List.mem_cons]
    constructor
    ·rintro (h | h | h) <;> simp [h]
    ·rintro (h | h | h) <;> simp [h]
theorem insU_up (h : TotC c) (x : α) : ∀ l : List α, Up c l → Up c (insU c x l)
 | [], _ => by simp [insU, Up]
 | y :: r, hl => by
  have hl' := List.pairwise_cons.1 hl
  unfold insU
  split
  ·rename_i h1
   refine List.pairwise_cons.2 ⟨fun z hz => ?_, hl⟩
   rcases List.mem_cons.1 hz with rfl | hz
   ·exact h1
   ·exact h.trans _ _ _ h1 (hl'.1 z hz)
  ·split
   ·exact hl
   ·rename_i h1 h2
    refine List.pairwise_cons.2 ⟨fun z hz => ?_, insU_up h x r hl'.2⟩
    rcases (insU_mem h x z r).1 hz with rfl | hz
    ·have := h.neg y z; omega
    ·exact hl'.1 z hz
theorem sortU_spec (h : TotC c) : ∀ l : List α, UpOf c l (sortU c l)
 | [] => ⟨by simp [sortU, Up], by simp [sortU]⟩
 | x :: l => by
  obtain ⟨h1, h2⟩ := sortU_spec h l
  refine ⟨insU_up h x _ h1, fun z => ?_⟩
  show z ∈ insU c x (sortU c l) ↔ _
  rw [insU_mem h, h2, List.mem_cons]
theorem UpOf.eq (h : TotC c) {l xs : List α} (hx : UpOf c l xs) : xs = sortU c l := hx.uniq h (sortU_spec h l) fun _ => Iff.rfl
theorem Up.snoc {xs : List α} {x : α} (h : Up c xs) (hx : ∀ y ∈ xs, c y x < 0) : Up c (xs ++ [x]) :=
 List.pairwise_append.2 ⟨h, by simp, fun a ha b hb => by simp at hb; subst hb; exact hx a ha⟩
def Sorted (c : α → α → Int) (l : List α) : Prop := l.Pairwise fun x y => ¬ c y x < 0
theorem UpOf.keep (h : TotC c) {t xs : List α} {k : Nat} (hs : Sorted c t) (hk : k < t.length) (hx : UpOf c (t.take k) xs) (hn : k = 0 ∨ ∃ hk0 : k - 1 < t.length, c t[k - 1] t[k] ≠ 0) : UpOf c (t.take (k + 1)) (xs ++ [t[k]]) := by
 refine ⟨hx.1.snoc fun y hy => ?_, fun z => ?_⟩
 ·have hy' := (hx.2 y).1 hy
  rcases hn with rfl | ⟨hk0, hn⟩
  ·simp at hy'
  ·obtain ⟨i, hi⟩ := List.getElem?_of_mem hy'
   have hik : i < k := by
    have := (List.getElem?_eq_some_iff.1 hi).1
    rw [List.length_take] at this; omega
   rw [List.getElem?_take, if_pos hik, List.getElem?_eq_getElem (by omega)] at hi
   have hi := Option.some.inj hi
   have hp := List.pairwise_iff_getElem.1 hs
   have h1 : c t[k - 1] t[k] < 0 := by
    have := hp (k - 1) k hk0 hk (by omega)
    have := h.neg t[k - 1] t[k]; omega
   by_cases hik' : i = k - 1
   ·subst hik'; rw [← hi]; exact h1
   ·have h2 := hp i (k - 1) (by omega) hk0 (by omega)
    rw [hi] at h2
    by_cases e : c y t[k - 1] = 0
    ·rw [(h.eq0 _ _).1 e]; exact h1
    ·exact h.trans _ _ _ (by have := h.neg y t[k - 1]; omega) h1
 ·rw [List.take_add_one, List.getElem?_eq_getElem hk]
  simp only [Option.toList, List.mem_append, hx.2 z]
theorem UpOf.drop (h : TotC c) {t xs : List α} {k : Nat} (hk : k < t.length) (hx : UpOf c (t.take k) xs) (h0 : 0 < k) (hn : c (t[k - 1]'(by omega)) t[k] = 0) : UpOf c (t.take (k + 1)) xs := by
 refine ⟨hx.1, fun z => ?_⟩
 have e := (h.eq0 _ _).1 hn
 rw [List.take_add_one, List.getElem?_eq_getElem hk, hx.2 z]
 simp only [Option.toList, List.mem_append, List.mem_singleton]
 constructor
 ·exact .inl
 ·rintro (h | rfl)
  ·exact h
  ·rw [← e]
   refine List.mem_of_getElem? (i := k - 1) ?_
   rw [List.getElem?_take, if_pos (by omega), List.getElem?_eq_getElem (by omega)]
structure Join (c : α → α → Int) (a b out ra rb : List α) : Prop where
 up : Up c out
 ua : Up c ra
 ub : Up c rb
 la : ∀ x ∈ out, ∀ y ∈ ra, c x y < 0
 lb : ∀ x ∈ out, ∀ y ∈ rb, c x y < 0
 mem : ∀ x, (x ∈ out ∨ x ∈ ra ∨ x ∈ rb) ↔ (x ∈ a ∨ x ∈ b)
theorem Join.start {a b : List α} (ha : Up c a) (hb : Up c b) : Join c a b [] a b :=
 ⟨by simp [Up], ha, hb, by simp, by simp, by simp⟩
theorem Join.left (h : TotC c) {a b out ra rb : List α} {x : α} (hj : Join c a b out (x :: ra) rb) (hx : ∀ y, rb.head? = some y → c x y < 0) : Join c a b (out ++ [x]) ra rb := by
 have ua := List.pairwise_cons.1 hj.ua
 have hxb : ∀ y ∈ rb, c x y < 0 := fun y hy => by
  cases rb with
  | nil => simp at hy
  | cons z r =>
   have hz := hx z rfl
   rcases List.mem_cons.1 hy with rfl | hy
   ·exact hz
   ·exact h.trans _ _ _ hz ((List.pairwise_cons.1 hj.ub).1 y hy)
 refine ⟨hj.up.snoc fun y hy => hj.la y hy x (by simp), ua.2, hj.ub, fun y hy z hz => ?_, fun y hy z hz => ?_, fun z => ?_⟩
 ·rcases List.mem_append.1 hy with hy | hy
  ·exact hj.la y hy z (List.mem_cons_of_mem _ hz)
  ·simp at hy; subst hy; exact ua.1 z hz
 ·rcases List.mem_append.1 hy with hy | hy
  ·exact hj.lb y hy z hz
  ·simp at hy; subst hy; exact hxb z hz
 ·rw [← hj.mem z]; simp only [List.mem_append, List.mem_cons, List.not_mem_nil, or_false]
  constructor
  ·rintro ((h | h) | h | h) <;> simp [h]
  ·rintro (h | (h | h) | h) <;> simp [h]
theorem Join.swap {a b out ra rb : List α} (hj : Join c a b out ra rb) : Join c b a out rb ra :=
 ⟨hj.up, hj.ub, hj.ua, hj.lb, hj.la, fun x => by
  have := hj.mem x
  constructor
  ·intro hx; exact (this.1 (by rcases hx with h | h | h <;> simp [h])).symm
  ·intro hx; rcases this.2 hx.symm with h | h | h <;> simp [h]⟩
theorem Join.right (h : TotC c) {a b out ra rb : List α} {x : α} (hj : Join c a b out ra (x :: rb)) (hx : ∀ y, ra.head? = some y → c x y < 0) : Join c a b (out ++ [x]) ra rb :=
 (Join.left h hj.swap hx).swap
theorem Join.both (h : TotC c) {a b out ra rb : List α} {x y : α} (hj : Join c a b out (x :: ra) (y :: rb)) (hxy : c x y = 0) : Join c a b (out ++ [x]) ra rb := by
 have e := (h.eq0 _ _).1 hxy
 subst e
 have ua := List.pairwise_cons.1 hj.ua
 have ub := List.pairwise_cons.1 hj.ub
 refine ⟨hj.up.snoc fun y hy => hj.la y hy x (by simp), ua.2, ub.2, fun y hy z hz => ?_, fun y hy z hz => ?_, fun z => ?_⟩
 ·rcases List.mem_append.1 hy with hy | hy
  ·exact hj.la y hy z (List.mem_cons_of_mem _ hz)
  ·simp at hy; subst hy; exact ua.1 z hz
 ·rcases List.mem_append.1 hy with hy | hy
  ·exact hj.lb y hy z (List.mem_cons_of_mem _ hz)
  ·simp at hy; subst hy; exact ub.1 z hz
 ·rw [← hj.mem z]; simp only [List.mem_append, List.mem_cons, List.not_mem_nil, or_false]
  constructor
  ·rintro ((h | h) | h | h) <;> simp [h]
  ·rintro (h | (h | h) | h | h) <;> simp [h]
theorem Join.done {a b out : List α} (hj : Join c a b out [] []) : UpOf c (a ++ b) out :=
 ⟨hj.up, fun x => by have := hj.mem x; simpa using this⟩
end
section
variable {α : Type} [DecidableEq α]
end
theorem list_lt : ∀ a b : List UInt8, a < b ↔ Lib.compareBytes a b < 0
 | [], [] => by simp [Lib.compareBytes]
 | [], _ :: _ => by simp [Lib.compareBytes]
 | _ :: _, [] => by simp [Lib.compareBytes]
 | x :: a, y :: b => by
  rw [List.cons_lt_cons_iff, Lib.compareBytes]
  by_cases h1 : x < y
  ·simp [h1]
  ·rw [if_neg h1]
   by_cases h2 : y < x
   ·rw [if_pos h2]
    have hne : x ≠ y := fun e => by subst e; exact absurd h2 (UInt8.lt_irrefl _)
    simp [h1, hne]
   ·rw [if_neg h2]
    have e : x = y := by
     have h3 := UInt8.not_lt.1 h1
     have h4 := UInt8.not_lt.1 h2
     exact UInt8.le_antisymm h4 h3
    subst e
    rw [list_lt a b]
    simp
def bytesOf' (l : List UInt8) : ByteArray := ⟨l.toArray⟩
theorem merge_names {ss : List (List UInt8)} {N : List ByteArray} (hp : ss.Perm (N.map (·.data.toList))) (hn : N.Nodup) : (ss.mergeSort (fun x y => decide (x ≤ y))).map bytesOf' = sortU cmpS N := by
 have hT : TotC cmpS := ⟨ordS.zero, ordS.swap, fun x y z h1 h2 => ordS.lt h1 (by omega)⟩
 have hperm : (ss.mergeSort (fun x y => decide (x ≤ y))).Perm (N.map (·.data.toList)) := (List.mergeSort_perm _ _).trans hp
 have hid : ∀ b : ByteArray, bytesOf' b.data.toList = b := fun b => rfl
 have hinj : ∀ a b : ByteArray, a.data.toList = b.data.toList → a = b := fun a b h => ByteArray.ext (Array.toList_inj.1 h)
 have hnd : (ss.mergeSort (fun x y => decide (x ≤ y))).Nodup := by
  refine hperm.nodup_iff.2 ?_
  exact (List.pairwise_map.2 (hn.imp fun h e => h (hinj _ _ e)))
 have hst : (ss.mergeSort (fun x y => decide (x ≤ y))).Pairwise (fun x y => (decide (x ≤ y)) = true) := List.pairwise_mergeSort (fun a b c h1 h2 => by
   have h1 := of_decide_eq_true h1
   have h2 := of_decide_eq_true h2
   exact decide_eq_true (List.le_trans h1 h2)) (fun a b => by
   rcases List.le_total a b with h | h <;> simp [h]) _
 refine Up.uniq hT ?_ (sortU_spec hT N).1 fun x => ?_
 ·refine List.pairwise_map.2 ((hst.and hnd).imp fun {x y} h => ?_)
  have h1 : x ≤ y := of_decide_eq_true h.1
  have h2 : x < y := by
   rcases List.le_iff_lt_or_eq.1 h1 with h3 | h3
   ·exact h3
   ·exact absurd h3 h.2
  exact (list_lt x y).1 h2
 ·rw [(sortU_spec hT N).2 x, List.mem_map]
  constructor
  ·rintro ⟨l, hl, rfl⟩
   obtain ⟨b, hb, rfl⟩ := List.mem_map.1 (hperm.mem_iff.1 hl)
   exact hb
  ·intro hx
   exact ⟨x.data.toList, hperm.mem_iff.2 (List.mem_map.2 ⟨x, hx, rfl⟩), rfl⟩
end Go.Proofs.YtdjffkkbjbiihaaGreatDoor
namespace Go.Proofs.YtdjffkkbjbiihaaGreatDoor
open Go.RowKit Go.WideMaps Go.Maps
open Go.ChangeMaps (setBlock heap_setBlock_same heap_setBlock_other)
structure KeyOn {α : Type} (P : Program) (k : TypeId) (kv : α → Value) (ok : α → Prop) : Prop where
 law : Keyed P k
 lit : ∀ x, ok x → ∃ l, keyOf P k (kv x) = some l
 inj : ∀ x y, kv x = kv y → x = y
def MapE {α : Type} (kv : α → Value) (w : World) (b : Nat) (l : List (α × Value)) : Prop :=
 ∃ es clock, w.heap[b]? = some (.map es clock) ∧ MapKept.Stamped es clock ∧ es.toList.map (fun e => (e.key, e.val)) = l.map (fun p => (kv p.1, p.2))
def getE {α : Type} [DecidableEq α] (l : List (α × Value)) (x : α) : Option Value := (l.find? (fun p => decide (p.1 = x))).map (·.2)
theorem getE_none {α : Type} [DecidableEq α] {l : List (α × Value)} {x : α} (h : ∀ p ∈ l, p.1 ≠ x) : getE l x = none := by
 unfold getE
 rw [List.find?_eq_none.2 (fun p hp => by simpa using h p hp)]
 rfl
theorem nodup_of_map {α β : Type} {f : α → β} : ∀ {l : List α}, (l.map f).Nodup → l.Nodup
 | [], _ => List.nodup_nil
 | a :: l, h => by
  rw [List.map_cons, List.nodup_cons] at h
  exact List.nodup_cons.2 ⟨fun ha => h.1 (List.mem_map_of_mem ha), nodup_of_map h.2⟩
theorem getE_at {α : Type} [DecidableEq α] : ∀ {l : List (α × Value)} {j : Nat} {x : α} {v : Value}, (l.map (·.1)).Nodup → l[j]? = some (x, v) → getE l x = some v
 | [], j, x, v, _, h => by simp at h
 | (y, u) :: l, 0, x, v, hn, h => by
  simp only [List.getElem?_cons_zero, Option.some.injEq, Prod.mk.injEq] at h
  obtain ⟨rfl, rfl⟩ := h
  simp [getE]
 | (y, u) :: l, j + 1, x, v, hn, h => by
  rw [List.getElem?_cons_succ] at h
  rw [List.map_cons, List.nodup_cons] at hn
  have hne : y ≠ x := fun e => hn.1 (by rw [e]; exact List.mem_map.2 ⟨(x, v), List.mem_of_getElem? h, rfl⟩)
  have := getE_at hn.2 h
  unfold getE at this ⊢
  rw [List.find?_cons_of_neg (by simpa using hne)]
  exact this
section
variable {α : Type} {P : Program} {k t e : TypeId} {kv : α → Value} {ok : α → Prop} {w w' : World} {b : Nat} {l : List (α × Value)}
theorem MapE.new (w : World) : MapE kv (w.alloc (.map #[] 0)) w.heap.size [] := ⟨#[], 0, heap_alloc_new w _, MapKept.stamped_empty 0, rfl⟩
theorem MapE.lt (h : MapE kv w b l) : b < w.heap.size := by
 obtain ⟨es, c, h1, _⟩ := h
 exact (Array.getElem?_eq_some_iff.1 h1).1
theorem MapE.kept (h : MapE kv w b l) (hs : w'.heap[b]? = w.heap[b]?) : MapE kv w' b l := by
 obtain ⟨es, c, h1, h2⟩ := h
 exact ⟨es, c, hs.trans h1, h2⟩
theorem MapE.fut (h : MapE kv w b l) (hf : Fut w w') : MapE kv w' b l := by
 obtain ⟨es, c, h1, h2⟩ := h
 exact ⟨es, c, hf.block h1, h2⟩
theorem MapE.grown (h : MapE kv w b l) {r : Option Nat} (hg : w.grownBy w' r) (hne : some b ≠ r) : MapE kv w' b l :=
 h.kept (hg.block b h.lt (fun e => hne e))
theorem MapE.nodup (h : MapE kv w b l) : (l.map (·.1)).Nodup := by
 obtain ⟨es, c, _, h2, h3⟩ := h
 have h4 : es.toList.map (·.key) = (l.map (·.1)).map kv := by
  have := congrArg (List.map Prod.fst) h3
  simpa [List.map_map, Function.comp_def] using this
 have h5 := h2.2.2
 rw [h4] at h5
 exact nodup_of_map h5
theorem MapE.find (K : KeyOn P k kv ok) (hok : ∀ p ∈ l, ok p.1) {es : Array MapEntry} (h3 : es.toList.map (fun e => (e.key, e.val)) = l.map (fun p => (kv p.1, p.2))) {x : α} (hx : ok x) :
  ((∀ p ∈ l, p.1 ≠ x) ∧ (∀ y ∈ es.toList, y.key ≠ kv x) ∧ (Instr.findKey k (kv x) es.toList).run P w = .ok none w) ∨
  ∃ j v y, l[j]? = some (x, v) ∧ es.toList[j]? = some y ∧ y.key = kv x ∧ y.val = v ∧ (Instr.findKey k (kv x) es.toList).run P w = .ok (some (j, v)) w := by
 obtain ⟨lx, hlx⟩ := K.lit x hx
 have at' : ∀ j : Nat, (es.toList[j]?).map (fun e => (e.key, e.val)) = (l[j]?).map (fun p => (kv p.1, p.2)) := fun j => by
  have := congrArg (fun a => a[j]?) h3
  simpa using this
 have key : ∀ y ∈ es.toList, ∃ p ∈ l, y.key = kv p.1 ∧ y.val = p.2 := fun y hy => by
  have : (y.key, y.val) ∈ es.toList.map (fun e => (e.key, e.val)) := List.mem_map.2 ⟨y, hy, rfl⟩
  rw [h3] at this
  obtain ⟨p, hp, he⟩ := List.mem_map.1 this
  injection he with e1 e2
  exact ⟨p, hp, e1.symm, e2.symm⟩
 rcases K.law.find w hlx es.toList (fun y hy => by
  obtain ⟨p, hp, e1, _⟩ := key y hy
  rw [e1]; exact K.lit _ (hok p hp)) with ⟨h4, h5⟩ | ⟨j, y, h4, h5, h6⟩
 ·refine .inl ⟨fun p hp he => ?_, h5, h4⟩
  have : (kv p.1, p.2) ∈ es.toList.map (fun e => (e.key, e.val)) := by rw [h3]; exact List.mem_map.2 ⟨p, hp, rfl⟩
  obtain ⟨y, hy, e1⟩ := List.mem_map.1 this
  injection e1 with e1 e2
  exact h5 y hy (by rw [e1, he])
 ·have h7 := at' j
  rw [h5] at h7
  cases hl : l[j]? with
  | none => rw [hl] at h7; cases h7
  | some p =>
   rw [hl] at h7
   simp only [Option.map_some, Option.some.injEq, Prod.mk.injEq] at h7
   have e1 : p.1 = x := K.inj _ _ (h7.1.symm.trans h6)
   obtain ⟨p1, p2⟩ := p
   simp only at e1 h7
   subst e1
   exact .inr ⟨j, p2, y, hl, h5, h6, h7.2, by rw [h4, h7.2]⟩
theorem MapE.look [DecidableEq α] (h : MapE kv w b l) (K : KeyOn P k kv ok) (hok : ∀ p ∈ l, ok p.1) (ht : P.underlying t = some (.map k e)) {z : Value} (hz : ∀ w, (zeroValue e).run P w = .ok z w) {x : α} (hx : ok x) :
  (Instr.lookup t (.map (some b)) (kv x) false).run P w = .ok ((getE l x).getD z) w ∧ (Instr.lookup t (.map (some b)) (kv x) true).run P w = .ok (.tuple #[(getE l x).getD z, .bool (getE l x).isSome]) w := by
 have hnd := h.nodup
 obtain ⟨es, c, hb, hst, h3⟩ := h
 obtain ⟨lx, hlx⟩ := K.lit x hx
 rcases MapE.find (w := w) K hok h3 hx with ⟨h4, _, h5⟩ | ⟨j, v, y, h4, _, _, _, h5⟩
 ·rw [getE_none h4]
  constructor <;> simp [Instr.lookup, run_underlying ht, MapKept.run_getObj_map hb, K.law.check w _ hlx, h5, hz, Result.andThen]
 ·rw [getE_at hnd h4]
  constructor <;> simp [Instr.lookup, run_underlying ht, MapKept.run_getObj_map hb, K.law.check w _ hlx, h5, Result.andThen]
theorem MapE.push (h : MapE kv w b l) (K : KeyOn P k kv ok) (hok : ∀ p ∈ l, ok p.1) (ht : P.underlying t = some (.map k e)) {x : α} (hx : ok x) (hn : ∀ p ∈ l, p.1 ≠ x) (v : Value) :
  ∃ w', (Instr.mapUpdate t (.map (some b)) (kv x) v).run P w = .ok () w' ∧ MapE kv w' b (l ++ [(x, v)]) ∧ w.grownBy w' (some b) := by
 obtain ⟨es, c, hb, hst, h3⟩ := h
 obtain ⟨lx, hlx⟩ := K.lit x hx
 rcases MapE.find (w := w) K hok h3 hx with ⟨_, h5, h4⟩ | ⟨j, v', y, h4, _⟩
 ·refine ⟨setBlock w b (.map (es.push { key := kv x, val := v, born := c }) (c + 1)), ?_, ⟨_, _, heap_setBlock_same hb _, MapKept.stamped_push hst h5, ?_⟩, ⟨rfl, rfl, rfl, by simp [setBlock], fun i _ hi => heap_setBlock_other hb _ (fun e => hi (by rw [e]))⟩⟩
  ·simp [Instr.mapUpdate, run_underlying ht, MapKept.run_getObj_map hb, K.law.check w _ hlx, h4, MapKept.run_setObj_map _ hb, Result.andThen, setBlock]
  ·rw [Array.toList_push, List.map_append, List.map_append, h3]; rfl
 ·exact absurd rfl (hn _ (List.mem_of_getElem? h4))
theorem map_modify {β γ : Type} (f : β → γ) (g : β → β) (g' : γ → γ) (hg : ∀ x, f (g x) = g' (f x)) : ∀ (l : List β) (i : Nat), (l.modify i g).map f = (l.map f).modify i g'
 | [], i => by cases i <;> rfl
 | a :: l, 0 => by simp [hg]
 | a :: l, i + 1 => by simp [map_modify f g g' hg l i]
theorem MapE.put (h : MapE kv w b l) (K : KeyOn P k kv ok) (hok : ∀ p ∈ l, ok p.1) (ht : P.underlying t = some (.map k e)) {x : α} (hx : ok x) {j : Nat} {u : Value} (hj : l[j]? = some (x, u)) (v : Value) :
  ∃ w', (Instr.mapUpdate t (.map (some b)) (kv x) v).run P w = .ok () w' ∧ MapE kv w' b (l.set j (x, v)) ∧ w.grownBy w' (some b) := by
 have hnd := h.nodup
 obtain ⟨es, c, hb, hst, h3⟩ := h
 obtain ⟨lx, hlx⟩ := K.lit x hx
 rcases MapE.find (w := w) K hok h3 hx with ⟨h4, _⟩ | ⟨i, v', y, h4, h5, h6, h7, h8⟩
 ·exact absurd rfl (h4 _ (List.mem_of_getElem? hj))
 have hij : i = j := by
  have h9 := List.getElem?_eq_some_iff.1 h4
  have h10 := List.getElem?_eq_some_iff.1 hj
  refine (List.getElem_inj (xs := l.map (·.1)) (h₀ := by rw [List.length_map]; exact h9.1) (h₁ := by rw [List.length_map]; exact h10.1) hnd).1 ?_
  rw [List.getElem_map, List.getElem_map, h9.2, h10.2]
 subst hij
 have h5' : es[i]? = some y := by rw [← Array.getElem?_toList]; exact h5
 refine ⟨setBlock w b (.map (es.modify i fun e => { e with key := kv x, val := v }) c), ?_, ⟨_, _, heap_setBlock_same hb _, MapKept.stamped_modify hst i _ (fun _ _ => rfl) (fun e _ he => by
  rw [h5'] at he
  obtain rfl := Option.some.inj he
  exact h6.symm), ?_⟩, ⟨rfl, rfl, rfl, by simp [setBlock], fun i _ hi => heap_setBlock_other hb _ (fun e => hi (by rw [e]))⟩⟩
 ·have hs := K.law.stays w hlx
  simp [Instr.mapUpdate, run_underlying ht, MapKept.run_getObj_map hb, K.law.check w _ hlx, h8, h5', h6, hs, MapKept.run_setObj_map _ hb, Result.andThen, setBlock]
 ·haveI : Inhabited (Value × Value) := ⟨(v, v)⟩
  rw [Array.toList_modify, map_modify (fun e : MapEntry => (e.key, e.val)) _ (fun _ => (kv x, v)) (fun _ => rfl), h3, List.modify_eq_set, List.map_set]
theorem MapE.len (h : MapE kv w b l) (ht : P.underlying t = some (.map k e)) (ty : TypeId) : (Builtin.len_ #[t] ty #[.map (some b)]).run P w = .ok (.int .i64 l.length) w := by
 obtain ⟨es, c, hb, _, h3⟩ := h
 have : es.size = l.length := by
  have := congrArg List.length h3
  simpa using this
 simp [Builtin.len_, run_underlying ht, MapKept.run_getObj_map hb, Result.andThen, this, goInt]
end
def strV (s : ByteArray) : Value := .string s
theorem keyStr : KeyOn Tryz.prog 9 strV (fun s => s.size ≤ maxLen) where
 law := string_keyed Tryz.underlying9
 lit x hx := ⟨.string x.data.toList, by simp [keyOf, Tryz.underlying9, strV, mapKey, hx]⟩
 inj x y h := by injection h
end Go.Proofs.YtdjffkkbjbiihaaGreatDoor
namespace Go.Proofs
open Go.Shelf
def Tryz.keys83_ren : Go.Shelf.Ren := ⟨fun | 7 => 83 | 10 => 195 | n => n, fun | 23 => 84 | 26 => 9 | 3 => 94 | 28 => 137 | 0 => 0 | 27 => 136 | 33 => 308 | 4 => 4 | n => n, fun | n => n⟩
theorem Tryz.keys83 : Go.Proofs.SlLaysZ.n7 Tryz.prog Tryz.keys83_ren := {
 mixed := by kernel_rfl
 f7 := ⟨Tryz.f83.name, by decide, Tryz.func83.trans (congrArg some (by kernel_rfl))⟩
 f10 := ⟨Tryz.f195.name, by decide, Tryz.func195.trans (congrArg some (by kernel_rfl))⟩
 t0 := Tryz.underlying0
 a0 := Tryz.isAgg0
 z0 := Tryz.sizeOf0
 v0 := Tryz.zeroValue0
 t4 := Tryz.underlying4
 a4 := Tryz.isAgg4
 z4 := Tryz.sizeOf4
 v4 := Tryz.zeroValue4
 t23 := Tryz.underlying84
 a23 := Tryz.isAgg84
 z23 := Tryz.sizeOf84
 v23 := Tryz.zeroValue84
 t26 := Tryz.underlying9
 a26 := Tryz.isAgg9
 z26 := Tryz.sizeOf9
 v26 := Tryz.zeroValue9
 t27 := Tryz.underlying136
 a27 := Tryz.isAgg136
 z27 := Tryz.sizeOf136
 v27 := Tryz.zeroValue136
 t28 := Tryz.underlying137
 a28 := Tryz.isAgg137
 z28 := Tryz.sizeOf137
 v28 := Tryz.zeroValue137
 t33 := Tryz.underlying308
 a33 := Tryz.isAgg308
 z33 := Tryz.sizeOf308
 v33 := Tryz.zeroValue308 }
def Tryz.sorted81_ren : Go.Shelf.Ren := ⟨fun | 6 => 81 | 8 => 192 | 9 => 193 | 11 => 248 | 13 => 250 | 12 => 249 | 23 => 275 | 24 => 276 | 14 => 266 | 15 => 267 | 16 => 268 | 17 => 269 | 18 => 270 | 19 => 271 | 20 => 272 | 21 => 273 | 22 => 274 | 25 => 295 | 26 => 296 | 27 => 297 | 28 => 298 | 29 => 299 | 30 => 300 | 31 => 316 | n => n, fun | 26 => 9 | 28 => 137 | 24 => 94 | 0 => 0 | 3 => 3 | 37 => 365 | 48 => 247 | 50 => 392 | 4 => 4 | 40 => 384 | 39 => 383 | 45 => 133 | 5 => 5 | 9 => 9 | 51 => 408 | 55 => 412 | 57 => 421 | 58 => 422 | 33 => 308 | n => n, fun | n => n⟩
theorem Tryz.sorted81 : Go.Proofs.SlLaysZ.n6 Tryz.prog Tryz.sorted81_ren := {
 mixed := by kernel_rfl
 f6 := ⟨Tryz.f81.name, by decide, Tryz.func81.trans (congrArg some (by kernel_rfl))⟩
 f8 := ⟨Tryz.f192.name, by decide, Tryz.func192.trans (congrArg some (by kernel_rfl))⟩
 f11 := ⟨Tryz.f248.name, by decide, Tryz.func248.trans (congrArg some (by kernel_rfl))⟩
 t0 := Tryz.underlying0
 a0 := Tryz.isAgg0
 z0 := Tryz.sizeOf0
 v0 := Tryz.zeroValue0
 t24 := Tryz.underlying94
 a24 := Tryz.isAgg94
 z24 := Tryz.sizeOf94
 v24 := Tryz.zeroValue94
 t26 := Tryz.underlying9
 a26 := Tryz.isAgg9
 z26 := Tryz.sizeOf9
 v26 := Tryz.zeroValue9
 t28 := Tryz.underlying137
 a28 := Tryz.isAgg137
 z28 := Tryz.sizeOf137
 v28 := Tryz.zeroValue137
 i26 := by kernel_rfl }
def Tryz.sort193_ren : Go.Shelf.Ren := ⟨fun | 6 => 193 | 8 => 250 | 9 => 249 | 19 => 275 | 20 => 276 | 21 => 266 | 22 => 267 | 23 => 268 | 24 => 269 | 25 => 270 | 26 => 271 | 27 => 272 | 28 => 273 | 29 => 274 | 36 => 295 | 31 => 296 | 32 => 297 | 37 => 298 | 38 => 299 | 39 => 300 | 41 => 316 | n => n, fun | 27 => 94 | 29 => 9 | 3 => 3 | 32 => 365 | 26 => 94 | 0 => 0 | 44 => 247 | 46 => 392 | 4 => 4 | 36 => 384 | 35 => 383 | 41 => 133 | 5 => 5 | 9 => 9 | 53 => 408 | 57 => 412 | 63 => 421 | 64 => 422 | n => n, fun | n => n⟩
theorem Tryz.sort193 : Go.Proofs.SlLaysM.n6 Tryz.prog Tryz.sort193_ren := {
 mixed := by kernel_rfl
 f6 := ⟨Tryz.f193.name, by decide, Tryz.func193.trans (congrArg some (by kernel_rfl))⟩
 f8 := Tryz.func250.trans (congrArg some (by kernel_rfl))
 f9 := ⟨Tryz.f249.name, by decide, Tryz.func249.trans (congrArg some (by kernel_rfl))⟩
 f19 := Tryz.func275.trans (congrArg some (by kernel_rfl))
 f20 := Tryz.func276.trans (congrArg some (by kernel_rfl))
 f21 := ⟨Tryz.f266.name, by decide, Tryz.func266.trans (congrArg some (by kernel_rfl))⟩
 f22 := ⟨Tryz.f267.name, by decide, Tryz.func267.trans (congrArg some (by kernel_rfl))⟩
 f23 := ⟨Tryz.f268.name, by decide, Tryz.func268.trans (congrArg some (by kernel_rfl))⟩
 f24 := ⟨Tryz.f269.name, by decide, Tryz.func269.trans (congrArg some (by kernel_rfl))⟩
 f25 := ⟨Tryz.f270.name, by decide, Tryz.func270.trans (congrArg some (by kernel_rfl))⟩
 f26 := ⟨Tryz.f271.name, by decide, Tryz.func271.trans (congrArg some (by kernel_rfl))⟩
 f27 := ⟨Tryz.f272.name, by decide, Tryz.func272.trans (congrArg some (by kernel_rfl))⟩
 f28 := ⟨Tryz.f273.name, by decide, Tryz.func273.trans (congrArg some (by kernel_rfl))⟩
 f29 := ⟨Tryz.f274.name, by decide, Tryz.func274.trans (congrArg some (by kernel_rfl))⟩
 f31 := Tryz.func296.trans (congrArg some (by kernel_rfl))
 f32 := Tryz.func297.trans (congrArg some (by kernel_rfl))
 f36 := ⟨Tryz.f295.name, by decide, Tryz.func295.trans (congrArg some (by kernel_rfl))⟩
 f37 := ⟨Tryz.f298.name, by decide, Tryz.func298.trans (congrArg some (by kernel_rfl))⟩
 f38 := ⟨Tryz.f299.name, by decide, Tryz.func299.trans (congrArg some (by kernel_rfl))⟩
 f39 := ⟨Tryz.f300.name, by decide, Tryz.func300.trans (congrArg some (by kernel_rfl))⟩
 f41 := ⟨Tryz.f316.name, by decide, Tryz.func316.trans (congrArg some (by kernel_rfl))⟩
 t0 := Tryz.underlying0
 a0 := Tryz.isAgg0
 z0 := Tryz.sizeOf0
 v0 := Tryz.zeroValue0
 t3 := Tryz.underlying3
 a3 := Tryz.isAgg3
 z3 := Tryz.sizeOf3
 v3 := Tryz.zeroValue3
 t4 := Tryz.underlying4
 a4 := Tryz.isAgg4
 z4 := Tryz.sizeOf4
 v4 := Tryz.zeroValue4
 t5 := Tryz.underlying5
 a5 := Tryz.isAgg5
 z5 := Tryz.sizeOf5
 v5 := Tryz.zeroValue5
 t9 := Tryz.underlying9
 a9 := Tryz.isAgg9
 z9 := Tryz.sizeOf9
 v9 := Tryz.zeroValue9
 t26 := Tryz.underlying94
 a26 := Tryz.isAgg94
 z26 := Tryz.sizeOf94
 v26 := Tryz.zeroValue94
 t27 := Tryz.underlying94
 a27 := Tryz.isAgg94
 z27 := Tryz.sizeOf94
 v27 := Tryz.zeroValue94
 t29 := Tryz.underlying9
 a29 := Tryz.isAgg9
 z29 := Tryz.sizeOf9
 v29 := Tryz.zeroValue9
 t32 := Tryz.underlying365
 a32 := Tryz.isAgg365
 z32 := Tryz.sizeOf365
 v32 := Tryz.zeroValue365
 t35 := Tryz.underlying383
 a35 := Tryz.isAgg383
 z35 := Tryz.sizeOf383
 v35 := Tryz.zeroValue383
 t36 := Tryz.underlying384
 a36 := Tryz.isAgg384
 z36 := Tryz.sizeOf384
 v36 := Tryz.zeroValue384
 t41 := Tryz.underlying133
 a41 := Tryz.isAgg133
 z41 := Tryz.sizeOf133
 v41 := Tryz.zeroValue133
 t44 := Tryz.underlying247
 a44 := Tryz.isAgg247
 z44 := Tryz.sizeOf247
 v44 := Tryz.zeroValue247
 t46 := Tryz.underlying392
 a46 := Tryz.isAgg392
 z46 := Tryz.sizeOf392
 v46 := Tryz.zeroValue392
 t53 := Tryz.underlying408
 a53 := Tryz.isAgg408
 z53 := Tryz.sizeOf408
 v53 := Tryz.zeroValue408
 t57 := Tryz.underlying412
 a57 := Tryz.isAgg412
 z57 := Tryz.sizeOf412
 v57 := Tryz.zeroValue412
 t63 := Tryz.underlying421
 a63 := Tryz.isAgg421
 z63 := Tryz.sizeOf421
 v63 := Tryz.zeroValue421
 t64 := Tryz.underlying422
 a64 := Tryz.isAgg422
 z64 := Tryz.sizeOf422
 v64 := Tryz.zeroValue422 }
end Go.Proofs
namespace Go.Proofs
open Go.RowKit Go.Maps Go.Sort Go.Shelf
theorem Tryz.sorts81 (m : Nat) : AnyZ.SortsIn Tryz.prog Tryz.sorted81_ren Fence.wide m :=
 ⟨fun blk off cap ss W hH hblk hsz => callsIn_wide.2 (AnyM.slices_Sort_string Tryz.sort193 blk off cap ss W hH hblk hsz),
  fun p cap W => callsIn_wide.2 (AnyM.slices_Sort_string_none Tryz.sort193 p cap W)⟩
theorem Tryz.maps_Keys_83 (mb : Option Nat) (W : World) : CallsIn Fence.wide 5 Tryz.prog 83 #[.map mb] W fun e w' => e = .returned (.func (.func 195) #[] #[.pointer (some ⟨W.heap.size, 0, none⟩)]) ∧ w' = W.alloc (.cells #[.map mb] 84) :=
 AnyZ.keys_in Tryz.keys83 Fence.wide 5 trivial rfl mb W
set_option maxHeartbeats 1000000 in
theorem Tryz.slices_Sorted_keys_81_83 {H : Type} (b nn : Nat) (D0 : DataW H) (R : Value → Option (DataW H × List MemPlace)) (w : World) (hown : w.ownsMap Tryz.prog 9 R b nn D0) (hmax : Maps.size D0 ≤ maxLen) (hbytes : Maps.size D0 * 16 ≤ 140737488355328) :
  CallsIn Fence.wide 5 Tryz.prog 81 #[.func (.func 195) #[] #[.pointer (some ⟨w.heap.size, 0, none⟩)]] (w.alloc (.cells #[.map (some b)] 84)) fun e w' => ∃ (v : Value) (ss : List (List UInt8)), e = .returned v ∧ ss.Perm (strKeys D0) ∧
   w'.ownsRow (w.alloc (.cells #[.map (some b)] 84)).heap.size 9 1 v ss.length ((ss.mergeSort (fun x y => decide (x ≤ y))).map encStr) ∧ (v = .slice none 0 0 ↔ ss = []) ∧ Below (w.alloc (.cells #[.map (some b)] 84)).heap.size (w.alloc (.cells #[.map (some b)] 84)) w' := by
 have hbl := hown.lt
 have hseq : SeqGives Fence.wide 2 Tryz.prog 195 #[.pointer (some ⟨w.heap.size, 0, none⟩)] encStr (fun ss => ss.Perm (strKeys D0)) (Maps.size D0) (w.alloc (.cells #[.map (some b)] 84)) :=
  AnyZ.keys_gives (ρ := Tryz.keys83_ren) { Tryz.keys83 with } Fence.wide _ trivial rfl (by omega) w.heap.size b nn D0 _ (by simp) (by simp) (by
   obtain ⟨es, clock, hb, Ft, hs, hD⟩ := hown
   exact ⟨es, clock, (Below.heap_alloc _ _ b hbl).trans hb, Ft, hs, hD⟩)
 exact AnyZ.sorted_in Tryz.sorted81 Fence.wide 5 trivial trivial trivial trivial rfl (by omega) (Tryz.sorts81 _) (enters_of Tryz.func193 (by kernel_rfl) rfl) 195 #[.pointer (some ⟨w.heap.size, 0, none⟩)] trivial (enters_of Tryz.func195 (by kernel_rfl) rfl) _ _ hmax hbytes _ hseq
end Go.Proofs
namespace Go.Proofs.YtdjffkkbjbiihaaGreatDoor
open Go.RowKit Go.Maps Go.WideShapes
open Go.WideElems (Fit rd rg pl rd_val rg_of elemAt)
def RNm (_ : World) (cs : List Value) (x : ByteArray) : Prop := cs = [.string x]
theorem RNm.stays : Stays RNm := fun _ _ _ _ _ h => h
theorem keyOf_str {s : ByteArray} (hs : s.size ≤ maxLen) : keyOf Tryz.prog 9 (strV s) = some (.string s.data.toList) := by simp [keyOf, Tryz.underlying9, strV, mapKey, hs]
theorem names_of_row {B : Nat} {e : TypeId} {w : World} {v : Value} {xs : List (List UInt8)} {n : Nat} (hn : n = xs.length) (h : w.ownsRow B e 1 v n (xs.map encStr)) : OwnL 1 B e RNm w v (xs.map bytesOf') := by
 subst hn
 refine ⟨xs.map fun l => [encStr l], by simp, fun i cs x hi hx => ?_, ?_⟩
 ·rw [List.getElem?_map] at hi hx
  cases hq : xs[i]? with
  | none => rw [hq] at hi; cases hi
  | some l =>
   rw [hq] at hi hx
   simp only [Option.map_some, Option.some.injEq] at hi hx
   subst hi; subst hx
   exact ⟨rfl, rfl⟩
 ·have e1 : ∀ ys : List (List UInt8), (ys.map fun l => [encStr l]).flatten = ys.map encStr := fun ys => by
   induction ys with
   | nil => rfl
   | cons a r ih => rw [List.map_cons, List.flatten_cons, ih]; rfl
  rw [e1, List.length_map]; exact h
theorem nm_at {w : World} {A : Option Addr} {n cap M : Nat} {xs : List ByteArray} (h : SlRep 1 M RNm w (.slice A n cap) xs) {k : Nat} (hk : k < xs.length) :
  ∃ b off, A = some ⟨b, off, none⟩ ∧ w.cell? ⟨b, off + k, none⟩ = some (.string xs[k]) := by
 obtain ⟨A1, cap1, hv, _, _, h3⟩ := h
 obtain ⟨b, off, cs, hA, hl, hc, hr⟩ := h3 k _ (List.getElem?_eq_getElem hk)
 injection hv with hv _ _
 obtain rfl : cs = _ := hr
 refine ⟨b, off, hv.trans hA, ?_⟩
 have := hc 0 _ rfl
 rwa [Nat.mul_one, Nat.add_zero] at this
end Go.Proofs.YtdjffkkbjbiihaaGreatDoor
namespace Go.Proofs.YtdjffkkbjbiihaaGreatDoor
open Go.RowKit Go.WideMaps Go.Maps
def RMp (_ : World) (cs : List Value) (b : Nat) : Prop := cs = [.map (some b)]
theorem RMp.stays : Stays RMp := fun _ _ _ _ _ h => h
theorem RMp.same : ∀ (w w' : World) cs x, RMp w cs x → RMp w' cs x := fun _ _ _ _ h => h
theorem RMp.one : ∀ (w : World) cs x, RMp w cs x → ∀ u ∈ cs, u.oneCell' = true := fun w cs x h u hu => by
 obtain rfl : cs = _ := h
 simp only [List.mem_singleton] at hu
 subst hu; rfl
abbrev Col : Type := Nat × List V
section
variable {B : Nat} {w w' : World} {blk : Nat} {rows : Int} {lv : Value} {cols : List Col} {S : Nat → Prop}
theorem map_ne {α : Type} {kv : α → Value} {b k : Nat} {l : List (α × Value)} {arr : Array Value} {t : TypeId} {fr : Nat × Nat} (h : MapE kv w b l) (hk : w.heap[k]? = some (.cells arr t fr)) : b ≠ k := fun e => by
 obtain ⟨es, c, h1, _⟩ := h
 rw [e, hk] at h1
 cases h1
end
structure En where
 p : ByteArray
 blk : Nat
 rows : Nat
 lv : Value
 cols : List Col
def En.entry (e : En) : ByteArray × Value := (e.p, .pointer (some ⟨e.blk, 0, none⟩))
section
variable {B mb : Nat} {w w' : World} {es : List En} {S : Nat → Prop}
end
end Go.Proofs.YtdjffkkbjbiihaaGreatDoor
