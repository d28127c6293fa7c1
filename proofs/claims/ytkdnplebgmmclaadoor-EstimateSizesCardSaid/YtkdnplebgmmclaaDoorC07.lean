/- SortL, Twin, Fact, Ord, KeysN, SizesP, SortW -/
import Derived.Sort.Statements
import Derived.Shelf.SlSortCmp.NoneTotal
import Derived.Test.YtkdnplebgmmclaaDoorC06
/- Lists in order, each once: plain laws, generic in the comparison. No program. -/
namespace Go.Proofs.YtkdnplebgmmclaaDoor
open Go.RowKit
set_option linter.unusedSimpArgs false
set_option linter.unusedVariables false

/-- A comparison that is an order. -/
structure TotC {α : Type} (c : α → α → Int) : Prop where
  eq0 : ∀ x y, c x y = 0 ↔ x = y
  neg : ∀ x y, c y x = - c x y
  trans : ∀ x y z, c x y < 0 → c y z < 0 → c x z < 0
section
variable {α : Type} {c : α → α → Int}
def Up (c : α → α → Int) (l : List α) : Prop := l.Pairwise fun x y => c x y < 0
/-- These in order, each once. -/
def UpOf (c : α → α → Int) (l xs : List α) : Prop := Up c xs ∧ ∀ x, x ∈ xs ↔ x ∈ l
theorem TotC.irr (h : TotC c) (x : α) : ¬ c x x < 0 := by have := (h.eq0 x x).2 rfl; omega
theorem Up.uniq (h : TotC c) : ∀ {l m : List α}, Up c l → Up c m → (∀ x, x ∈ l ↔ x ∈ m) → l = m
  | [], [], _, _, _ => rfl
  | [], y :: m, _, _, e => by have := (e y).2 (by simp); simp at this
  | x :: l, [], _, _, e => by have := (e x).1 (by simp); simp at this
  | x :: l, y :: m, hl, hm, e => by
    have hl' := List.pairwise_cons.1 hl
    have hm' := List.pairwise_cons.1 hm
    have hxy : x = y := by
      have h1 := (e x).1 (by simp)
      have h2 := (e y).2 (by simp)
      rcases List.mem_cons.1 h1 with h1 | h1
      · exact h1
      · rcases List.mem_cons.1 h2 with h2 | h2
        · exact h2.symm
        · have a := hm'.1 x h1
          have b := hl'.1 y h2
          have := h.neg x y; omega
    subst hxy
    rw [Up.uniq h hl'.2 hm'.2 fun z => ?_]
    have hz := e z
    constructor
    · intro hz1
      rcases List.mem_cons.1 (hz.1 (List.mem_cons_of_mem _ hz1)) with e1 | e1
      · subst e1; exact absurd (hl'.1 z hz1) (h.irr z)
      · exact e1
    · intro hz1
      rcases List.mem_cons.1 (hz.2 (List.mem_cons_of_mem _ hz1)) with e1 | e1
      · subst e1; exact absurd (hm'.1 z hz1) (h.irr z)
      · exact e1
theorem UpOf.uniq (h : TotC c) {l m xs ys : List α} (hx : UpOf c l xs) (hy : UpOf c m ys) (hm : ∀ x, x ∈ l ↔ x ∈ m) : xs = ys :=
  Up.uniq h hx.1 hy.1 fun x => (hx.2 x).trans ((hm x).trans (hy.2 x).symm)

/-- Laid in at its place, if it is not there. -/
def insU (c : α → α → Int) (x : α) : List α → List α
  | [] => [x]
  | y :: r => if c x y < 0 then x :: y :: r else if c x y = 0 then y :: r else y :: insU c x r
def sortU (c : α → α → Int) (l : List α) : List α := l.foldr (insU c) []
theorem insU_mem (h : TotC c) (x z : α) : ∀ l : List α, z ∈ insU c x l ↔ z = x ∨ z ∈ l
  | [] => by simp [insU]
  | y :: r => by
    unfold insU
    split
    · simp
    · split
      · rename_i h1 h2
        have := (h.eq0 x y).1 h2
        subst this
        simp
      · rw [List.mem_cons, insU_mem h x z r, List.mem_cons]
        constructor
        · rintro (h | h | h) <;> simp [h]
        · rintro (h | h | h) <;> simp [h]
theorem insU_up (h : TotC c) (x : α) : ∀ l : List α, Up c l → Up c (insU c x l)
  | [], _ => by simp [insU, Up]
  | y :: r, hl => by
    have hl' := List.pairwise_cons.1 hl
    unfold insU
    split
    · rename_i h1
      refine List.pairwise_cons.2 ⟨fun z hz => ?_, hl⟩
      rcases List.mem_cons.1 hz with rfl | hz
      · exact h1
      · exact h.trans _ _ _ h1 (hl'.1 z hz)
    · split
      · exact hl
      · rename_i h1 h2
        refine List.pairwise_cons.2 ⟨fun z hz => ?_, insU_up h x r hl'.2⟩
        rcases (insU_mem h x z r).1 hz with rfl | hz
        · have := h.neg y z; omega
        · exact hl'.1 z hz
theorem sortU_spec (h : TotC c) : ∀ l : List α, UpOf c l (sortU c l)
  | [] => ⟨by simp [sortU, Up], by simp [sortU]⟩
  | x :: l => by
    obtain ⟨h1, h2⟩ := sortU_spec h l
    refine ⟨insU_up h x _ h1, fun z => ?_⟩
    show z ∈ insU c x (sortU c l) ↔ _
    rw [insU_mem h, h2, List.mem_cons]
theorem UpOf.eq (h : TotC c) {l xs : List α} (hx : UpOf c l xs) : xs = sortU c l := hx.uniq h (sortU_spec h l) fun _ => Iff.rfl
theorem sortU_congr (h : TotC c) {l m : List α} (hm : ∀ x, x ∈ l ↔ x ∈ m) : sortU c l = sortU c m := (sortU_spec h l).uniq h (sortU_spec h m) hm

/-- One more behind. -/
theorem Up.snoc {xs : List α} {x : α} (h : Up c xs) (hx : ∀ y ∈ xs, c y x < 0) : Up c (xs ++ [x]) :=
  List.pairwise_append.2 ⟨h, by simp, fun a ha b hb => by simp at hb; subst hb; exact hx a ha⟩
/-- Rising, equals behind one another. -/
def Sorted (c : α → α → Int) (l : List α) : Prop := l.Pairwise fun x y => ¬ c y x < 0
/-- What is kept of a rising list: what is not like the one ahead. -/
theorem UpOf.keep (h : TotC c) {t xs : List α} {k : Nat} (hs : Sorted c t) (hk : k < t.length) (hx : UpOf c (t.take k) xs) (hn : k = 0 ∨ ∃ hk0 : k - 1 < t.length, c t[k - 1] t[k] ≠ 0) : UpOf c (t.take (k + 1)) (xs ++ [t[k]]) := by
  refine ⟨hx.1.snoc fun y hy => ?_, fun z => ?_⟩
  · have hy' := (hx.2 y).1 hy
    rcases hn with rfl | ⟨hk0, hn⟩
    · simp at hy'
    · obtain ⟨i, hi⟩ := List.getElem?_of_mem hy'
      have hik : i < k := by
        have := (List.getElem?_eq_some_iff.1 hi).1
        rw [List.length_take] at this; omega
      rw [List.getElem?_take, if_pos hik, List.getElem?_eq_getElem (by omega)] at hi
      have hi := Option.some.inj hi
      have hp := List.pairwise_iff_getElem.1 hs
      have h1 : c t[k - 1] t[k] < 0 := by
        have := hp (k - 1) k hk0 hk (by omega)
        have := h.neg t[k - 1] t[k]; omega
      by_cases hik' : i = k - 1
      · subst hik'; rw [← hi]; exact h1
      · have h2 := hp i (k - 1) (by omega) hk0 (by omega)
        rw [hi] at h2
        by_cases e : c y t[k - 1] = 0
        · rw [(h.eq0 _ _).1 e]; exact h1
        · exact h.trans _ _ _ (by have := h.neg y t[k - 1]; omega) h1
  · rw [List.take_add_one, List.getElem?_eq_getElem hk]
    simp only [Option.toList, List.mem_append, hx.2 z]
theorem UpOf.drop (h : TotC c) {t xs : List α} {k : Nat} (hk : k < t.length) (hx : UpOf c (t.take k) xs) (h0 : 0 < k) (hn : c (t[k - 1]'(by omega)) t[k] = 0) : UpOf c (t.take (k + 1)) xs := by
  refine ⟨hx.1, fun z => ?_⟩
  have e := (h.eq0 _ _).1 hn
  rw [List.take_add_one, List.getElem?_eq_getElem hk, hx.2 z]
  simp only [Option.toList, List.mem_append, List.mem_singleton]
  constructor
  · exact .inl
  · rintro (h | rfl)
    · exact h
    · rw [← e]
      refine List.mem_of_getElem? (i := k - 1) ?_
      rw [List.getElem?_take, if_pos (by omega), List.getElem?_eq_getElem (by omega)]

/-- Two rising lists, joined from the front: what is out, and what is left of both. -/
structure Join (c : α → α → Int) (a b out ra rb : List α) : Prop where
  up : Up c out
  ua : Up c ra
  ub : Up c rb
  la : ∀ x ∈ out, ∀ y ∈ ra, c x y < 0
  lb : ∀ x ∈ out, ∀ y ∈ rb, c x y < 0
  mem : ∀ x, (x ∈ out ∨ x ∈ ra ∨ x ∈ rb) ↔ (x ∈ a ∨ x ∈ b)
theorem Join.start {a b : List α} (ha : Up c a) (hb : Up c b) : Join c a b [] a b :=
  ⟨by simp [Up], ha, hb, by simp, by simp, by simp⟩
theorem Join.left (h : TotC c) {a b out ra rb : List α} {x : α} (hj : Join c a b out (x :: ra) rb) (hx : ∀ y, rb.head? = some y → c x y < 0) : Join c a b (out ++ [x]) ra rb := by
  have ua := List.pairwise_cons.1 hj.ua
  have hxb : ∀ y ∈ rb, c x y < 0 := fun y hy => by
    cases rb with
    | nil => simp at hy
    | cons z r =>
      have hz := hx z rfl
      rcases List.mem_cons.1 hy with rfl | hy
      · exact hz
      · exact h.trans _ _ _ hz ((List.pairwise_cons.1 hj.ub).1 y hy)
  refine ⟨hj.up.snoc fun y hy => hj.la y hy x (by simp), ua.2, hj.ub, fun y hy z hz => ?_, fun y hy z hz => ?_, fun z => ?_⟩
  · rcases List.mem_append.1 hy with hy | hy
    · exact hj.la y hy z (List.mem_cons_of_mem _ hz)
    · simp at hy; subst hy; exact ua.1 z hz
  · rcases List.mem_append.1 hy with hy | hy
    · exact hj.lb y hy z hz
    · simp at hy; subst hy; exact hxb z hz
  · rw [← hj.mem z]; simp only [List.mem_append, List.mem_cons, List.not_mem_nil, or_false]
    constructor
    · rintro ((h | h) | h | h) <;> simp [h]
    · rintro (h | (h | h) | h) <;> simp [h]
theorem Join.swap {a b out ra rb : List α} (hj : Join c a b out ra rb) : Join c b a out rb ra :=
  ⟨hj.up, hj.ub, hj.ua, hj.lb, hj.la, fun x => by
    have := hj.mem x
    constructor
    · intro hx; exact (this.1 (by rcases hx with h | h | h <;> simp [h])).symm
    · intro hx; rcases this.2 hx.symm with h | h | h <;> simp [h]⟩
theorem Join.right (h : TotC c) {a b out ra rb : List α} {x : α} (hj : Join c a b out ra (x :: rb)) (hx : ∀ y, ra.head? = some y → c x y < 0) : Join c a b (out ++ [x]) ra rb :=
  (Join.left h hj.swap hx).swap
theorem Join.both (h : TotC c) {a b out ra rb : List α} {x y : α} (hj : Join c a b out (x :: ra) (y :: rb)) (hxy : c x y = 0) : Join c a b (out ++ [x]) ra rb := by
  have e := (h.eq0 _ _).1 hxy
  subst e
  have ua := List.pairwise_cons.1 hj.ua
  have ub := List.pairwise_cons.1 hj.ub
  refine ⟨hj.up.snoc fun y hy => hj.la y hy x (by simp), ua.2, ub.2, fun y hy z hz => ?_, fun y hy z hz => ?_, fun z => ?_⟩
  · rcases List.mem_append.1 hy with hy | hy
    · exact hj.la y hy z (List.mem_cons_of_mem _ hz)
    · simp at hy; subst hy; exact ua.1 z hz
  · rcases List.mem_append.1 hy with hy | hy
    · exact hj.lb y hy z (List.mem_cons_of_mem _ hz)
    · simp at hy; subst hy; exact ub.1 z hz
  · rw [← hj.mem z]; simp only [List.mem_append, List.mem_cons, List.not_mem_nil, or_false]
    constructor
    · rintro ((h | h) | h | h) <;> simp [h]
    · rintro (h | (h | h) | h | h) <;> simp [h]
theorem Join.done {a b out : List α} (hj : Join c a b out [] []) : UpOf c (a ++ b) out :=
  ⟨hj.up, fun x => by have := hj.mem x; simpa using this⟩
/-- .. of two halves, each in order. -/
theorem UpOf.join (h : TotC c) {l m a b out : List α} (ha : UpOf c l a) (hb : UpOf c m b) (hj : Join c a b out [] []) : UpOf c (l ++ m) out :=
  ⟨hj.done.1, fun x => by rw [hj.done.2 x, List.mem_append, List.mem_append, ha.2, hb.2]⟩

theorem TotC.swo (h : TotC c) : Go.Sort.SWO (fun x y => decide (c x y < 0)) where
  irrefl x := by simpa using h.irr x
  trans x y z h1 h2 := by
    simp only [decide_eq_true_eq] at *
    exact h.trans _ _ _ h1 h2
  ntrans x y z h1 h2 := by
    simp only [decide_eq_false_iff_not] at *
    intro h3
    by_cases e : c x y = 0
    · rw [(h.eq0 _ _).1 e] at h3; exact h2 h3
    · by_cases e' : c y z = 0
      · rw [← (h.eq0 _ _).1 e'] at h3; exact h1 h3
      · have h4 := h.trans z y x (by have := h.neg y z; omega) (by have := h.neg x y; omega)
        have := h.neg x z; omega
end
end Go.Proofs.YtkdnplebgmmclaaDoor
/- Copies with a mark behind: TwinValues, LeftValues. -/
namespace Go.Proofs.YtkdnplebgmmclaaDoor
open Go.RowKit
set_option linter.unusedSimpArgs false
set_option linter.unusedVariables false

/-! ### Copies with a mark behind -/
def markV : V := ⟨99, 777777, ⟨#[]⟩⟩
set_option maxHeartbeats 400000 in
theorem mark_any (w : World) : Calls Tryd.prog 40 #[.int .i64 777777] w fun e w' => e = .returned markV.val ∧ Fut w w' := by
  go_enter Tryd.func40, Tryd.ntmps40
  go_wp2
  exact bodyPost_ret (v := markV.val) (by simp [results, Tryd.results40, go_sem, markV, V.val]) rfl ⟨rfl, Fut.alloc _ _⟩
set_option maxHeartbeats 400000 in
theorem isMark_any (w : World) : Calls Tryd.prog 51 #[markV.val, .int .i64 777777] w fun e w' => e = .returned (.bool true) ∧ Fut w w' := by
  unfold markV V.val
  go_enter Tryd.func51, Tryd.ntmps51
  go_wp2
  go_ret
  exact ⟨rfl, Fut.alloc _ _⟩

theorem infoV : (Tryd.prog.info? 52).map (fun i => (i.zero, i.size, i.bytes)) = some (some (.agg #[.int .i8 0, .int .i64 0, .string ⟨#[]⟩]), 3, 32) := by kernel_rfl
/-- A copy that TwinValues makes. -/
def TwinR (B : Nat) (w : World) (v : Value) (xs : List V) : Prop :=
  ∃ g, B ≤ g ∧ v = .slice (some ⟨g, 0, none⟩) xs.length (xs.length + 1) ∧ BlkF w g 52 ((xs.length + 1) * 3) (flat (xs ++ [markV]))
theorem TwinR.fut {B : Nat} {w w' : World} {v : Value} {xs : List V} (h : TwinR B w v xs) (hf : Fut w w') : TwinR B w' v xs := by
  obtain ⟨g, h1, h2, h3⟩ := h
  exact ⟨g, h1, h2, h3.fut hf⟩
theorem flat_left (xs ys : List V) (j : Nat) (h : j < xs.length * 3) : flat (xs ++ ys) j = flat xs j := by
  unfold flat
  rw [List.getElem?_append_left (by omega)]
theorem TwinR.vals {B : Nat} {w : World} {v : Value} {xs : List V} (h : TwinR B w v xs) (hok : ∀ x ∈ xs, x.ok) (hm : xs.length < 4398046511104) : Vals w v xs := by
  obtain ⟨g, h1, rfl, h3⟩ := h
  exact vals_of_blk h3 (by omega) (fun j hj => flat_left _ _ _ hj) (by omega) (by omega) hok
theorem Vals.oks {w : World} {v : Value} {xs : List V} (h : Vals w v xs) : ∀ x ∈ xs, x.ok := by
  obtain ⟨A, cap, _, _, _, h3⟩ := h
  intro x hx
  obtain ⟨i, hi⟩ := List.getElem?_of_mem hx
  obtain ⟨_, _, _, _, _, _, _, hok⟩ := h3 i x hi
  exact hok

def zeroV : V := ⟨0, 0, ⟨#[]⟩⟩
theorem flat_rep (xs : List V) (k n : Nat) (hk : k < xs.length) (j : Nat) (hj : j < n * 3) (hn : xs.length ≤ n) :
    (if j = k * 3 + 2 then Value.string (xs[k]).s else if j = k * 3 + 1 then .int .i64 (xs[k]).n else if j = k * 3 then .int .i8 (xs[k]).k else flat (xs.take k ++ List.replicate (n - k) zeroV) j) =
      flat (xs.take (k + 1) ++ List.replicate (n - (k + 1)) zeroV) j := by
  obtain ⟨f0, f1, f2⟩ := flat_at xs k hk
  by_cases hjk : j / 3 = k
  · have hl : flat (xs.take (k + 1) ++ List.replicate (n - (k + 1)) zeroV) j = flat xs j := by
      rw [flat_left _ _ _ (by rw [List.length_take]; omega)]
      unfold flat
      rw [List.getElem?_take, if_pos (by omega)]
    rw [hl]
    rcases (by omega : j = k * 3 + 2 ∨ j = k * 3 + 1 ∨ j = k * 3) with rfl | rfl | rfl
    · rw [if_pos rfl, f2]
    · rw [if_neg (by omega), if_pos rfl, f1]
    · rw [if_neg (by omega), if_neg (by omega), if_pos rfl, f0]
  · rw [if_neg (by omega), if_neg (by omega), if_neg (by omega)]
    rcases Nat.lt_or_ge (j / 3) k with h | h
    · rw [flat_left _ _ _ (by rw [List.length_take]; omega), flat_left _ _ _ (by rw [List.length_take]; omega)]
      unfold flat
      rw [List.getElem?_take, List.getElem?_take, if_pos (by omega), if_pos (by omega)]
    · unfold flat
      rw [List.getElem?_append_right (by rw [List.length_take]; omega), List.getElem?_append_right (by rw [List.length_take]; omega), List.length_take, List.length_take,
        List.getElem?_replicate, List.getElem?_replicate, if_pos (by omega), if_pos (by omega)]
theorem flat_mark (xs : List V) (j : Nat) (hj : j < (xs.length + 1) * 3) :
    (if j = xs.length * 3 + 2 then Value.string markV.s else if j = xs.length * 3 + 1 then .int .i64 markV.n else if j = xs.length * 3 then .int .i8 markV.k else flat (xs.take xs.length ++ List.replicate (xs.length + 1 - xs.length) zeroV) j) =
      flat (xs ++ [markV]) j := by
  rw [List.take_length, show xs.length + 1 - xs.length = 1 by omega]
  rcases Nat.lt_or_ge j (xs.length * 3) with h | h
  · rw [if_neg (by omega), if_neg (by omega), if_neg (by omega), flat_left _ _ _ h, flat_left _ _ _ h]
  · obtain ⟨f0, f1, f2⟩ := flat_at (xs ++ [markV]) xs.length (by simp)
    simp only [List.getElem_concat_length] at f0 f1 f2
    rcases (by omega : j = xs.length * 3 + 2 ∨ j = xs.length * 3 + 1 ∨ j = xs.length * 3) with rfl | rfl | rfl
    · rw [if_pos rfl, f2]
    · rw [if_neg (by omega), if_pos rfl, f1]
    · rw [if_neg (by omega), if_neg (by omega), if_pos rfl, f0]

theorem made_zero (n j : Nat) (hj : j < n * 3) : (madeCells #[Value.int .i8 0, .int .i64 0, .string ⟨#[]⟩] (n * 3)).getD j undef = flat (List.replicate n zeroV) j := by
  unfold flat
  rw [List.getElem?_replicate, if_pos (by omega)]
  simp only [madeCells, Option.map_some, Option.getD_some, V.cells, zeroV]
  simp [hj]
  rcases (by omega : j % 3 = 0 ∨ j % 3 = 1 ∨ j % 3 = 2) with h | h | h <;> rw [h] <;> rfl

set_option maxHeartbeats 800000 in
theorem twin_any (a : Value) (xs : List V) (w : World) (ha : Vals w a xs) (hn : xs.length < 4398046511104) :
    Calls Tryd.prog 24 #[a] w fun e w' => ∃ v, e = .returned v ∧ TwinR w.heap.size w' v xs ∧ Fut w w' := by
  obtain ⟨A, cap, rfl, hl, hm⟩ := SlRep.form ha
  obtain ⟨i0, hi0, hz0, hz1, hz2⟩ := info_parts infoV
  have hmk : ∀ W : World, (Instr.makeSlice 29 (.int .i64 ((xs.length : Int) + 1)) (.int .i64 ((xs.length : Int) + 1))).run Tryd.prog W =
      .ok (.slice (some ⟨W.heap.size, 0, none⟩) (xs.length + 1) (xs.length + 1)) (W.alloc (.cells (madeCells #[Value.int .i8 0, .int .i64 0, .string ⟨#[]⟩] ((xs.length + 1) * 3)) 52)) := fun W => by
    have := run_make_rowN (P := Tryd.prog) 29 52 i0 _ Tryd.underlying29 hi0 hz0 .i64 .i64 (xs.length + 1) (xs.length + 1) (Nat.le_refl _) (by rw [hz2]; omega) (by omega) W
    rw [hz1] at this
    exact this
  go_enter Tryd.func24, Tryd.ntmps24
  go_wp2
  go_loopw [4] (fun i wr => ∃ k : Nat, k ≤ xs.length ∧ i = .int .i64 k ∧ BlkF wr w.heap.size 52 ((xs.length + 1) * 3) (flat (xs.take k ++ List.replicate (xs.length + 1 - k) zeroV)) ∧ Hid (Fut w wr)) (fun i _ => xs.length - (intOf i).toNat)
  case atStart => exact ⟨0, Nat.zero_le _, rfl, by
    have h := BlkF.new w 52 (madeCells #[Value.int .i8 0, .int .i64 0, .string ⟨#[]⟩] ((xs.length + 1) * 3))
    rw [show (madeCells #[Value.int .i8 0, .int .i64 0, .string ⟨#[]⟩] ((xs.length + 1) * 3)).size = (xs.length + 1) * 3 by simp [madeCells]] at h
    exact h.congr fun j hj => made_zero _ j hj, Fut.alloc _ _⟩
  case round =>
    obtain ⟨k, hk, rfl, hblk, hf⟩ := hrel
    have hsz : w.heap.size < wr.heap.size := hblk.lt
    by_cases hlt : k < xs.length
    · obtain ⟨b, off, rfl, _, x0, x1, x2⟩ := Vals.at_ (ha.fut RV.stays hf.out) hlt
      have hbne : b ≠ w.heap.size := by
        have := lt_of_cell (Vals.at_ ha hlt).choose_spec.choose_spec.2.2.1
        obtain ⟨b1, off1, hA, _, z0, _⟩ := Vals.at_ ha hlt
        injection hA with hA
        injection hA with hA
        subst hA
        have := lt_of_cell z0
        simp only at this
        omega
      have d0 := hblk.cell (j := k * 3) (by omega)
      have d1 := hblk.cell (j := k * 3 + 1) (by omega)
      have d2 := hblk.cell (j := k * 3 + 2) (by omega)
      have e0 := hblk.free (k * 3)
      have e1 := hblk.free (k * 3 + 1)
      have e2 := hblk.free (k * 3 + 2)
      have HB := Lib.hid hblk
      clear hblk
      go_wp2
      refine ⟨⟨k + 1, by omega, by go_num, ?_, ((hf.out.set (Nat.le_refl _) _).set (Nat.le_refl _) _).set (Nat.le_refl _) _⟩, by simp [intOf]; omega⟩
      exact (((HB.out.set _ _).set _ _).set _ _).congr fun j hj => flat_rep xs k (xs.length + 1) hlt j hj (by omega)
    · obtain rfl : k = xs.length := by omega
      have HB := Lib.hid hblk
      clear hblk
      go_wp2_with fail
      refine (mark_any _).mono ?_
      rintro e w1 ⟨rfl, h1⟩
      have hb1 := HB.out.fut h1
      have d0 := hb1.cell (j := xs.length * 3) (by omega)
      have d1 := hb1.cell (j := xs.length * 3 + 1) (by omega)
      have d2 := hb1.cell (j := xs.length * 3 + 2) (by omega)
      have e0 := hb1.free (xs.length * 3)
      have e1 := hb1.free (xs.length * 3 + 1)
      have e2 := hb1.free (xs.length * 3 + 2)
      have HB1 := Lib.hid hb1
      clear hb1
      simp only [markV, V.val]
      go_wp2
      go_ret
      refine ⟨_, rfl, ⟨_, Nat.le_refl _, rfl, ?_⟩, (((hf.out.trans h1).set (Nat.le_refl _) _).set (Nat.le_refl _) _).set (Nat.le_refl _) _⟩
      exact (((HB1.out.set _ _).set _ _).set _ _).congr fun j hj => flat_mark xs j hj

set_option maxHeartbeats 800000 in
theorem left_any (B : Nat) (a b : Value) (xs : List V) (w : World) (ha : TwinR B w a xs) (hb : Vals w b xs) (hn : xs.length < 4398046511104) :
    Calls Tryd.prog 39 #[a, b] w fun e w' => e = .returned (.bool true) ∧ Fut w w' := by
  have hv := ha.vals hb.oks hn
  obtain ⟨A, cap, rfl, hl, hm⟩ := SlRep.form hb
  obtain ⟨g, _, rfl, hblk⟩ := ha
  have HB := Lib.hid hblk
  clear hblk
  go_enter Tryd.func39, Tryd.ntmps39
  go_wp2_with fail
  refine (same_any _ _ xs xs _ hv hb).mono ?_
  rintro e w1 ⟨rfl, h1⟩
  obtain ⟨f0, f1, f2⟩ := flat_at (xs ++ [markV]) xs.length (by simp)
  simp only [List.getElem_concat_length] at f0 f1 f2
  have d0 := (HB.out.fut h1).cell (j := xs.length * 3) (by omega)
  have d1 := (HB.out.fut h1).cell (j := xs.length * 3 + 1) (by omega)
  have d2 := (HB.out.fut h1).cell (j := xs.length * 3 + 2) (by omega)
  rw [f0] at d0
  rw [f1] at d1
  rw [f2] at d2
  clear f0 f1 f2
  simp only [decide_true]
  go_wp2_with fail
  refine (isMark_any _).mono ?_
  rintro e w2 ⟨rfl, h2⟩
  go_wp2
  go_ret
  exact ⟨rfl, h1.trans h2⟩

end Go.Proofs.YtkdnplebgmmclaaDoor
/- Facts: BeyondFacts, TwinFact, LeftFact; the order of facts, of the program and of the reference. -/
namespace Go.Proofs.YtkdnplebgmmclaaDoor
open Go.RowKit
set_option linter.unusedSimpArgs false
set_option linter.unusedVariables false

theorem Facs.at_ {w : World} {A : Option Addr} {n cap : Nat} {fs : List Fc} (h : Facs w (.slice A n cap) fs) {k : Nat} (hk : k < fs.length) :
    ∃ b off A' cap', A = some ⟨b, off, none⟩ ∧ (fs[k]).p.size ≤ 140737488351232 ∧ w.cell? ⟨b, off + k * 2, none⟩ = some (.string (fs[k]).p) ∧ w.cell? ⟨b, off + k * 2 + 1, none⟩ = some (.slice A' (fs[k]).a.length cap') ∧ (fs[k]).a.length ≤ cap' ∧ cap' ≤ 4398046511104 ∧ Vals w (.slice A' (fs[k]).a.length cap') (fs[k]).a := by
  obtain ⟨A1, cap1, hv, _, _, h3⟩ := h
  obtain ⟨b, off, cs, hA, hl, hc, u, hr, hp, hu⟩ := h3 k _ (List.getElem?_eq_getElem hk)
  injection hv with hv _ _
  subst hr
  obtain ⟨A', cap', rfl, h4, h5⟩ := SlRep.form hu
  exact ⟨b, off, A', cap', hv.trans hA, hp, hc 0 _ rfl, hc 1 _ rfl, h4, h5, hu.vals⟩
def parts : List Fc → Nat
  | [] => 0
  | f :: r => 1 + f.a.length + parts r
theorem parts_take (fs : List Fc) (k : Nat) (hk : k < fs.length) : parts (fs.take (k + 1)) = parts (fs.take k) + (1 + (fs[k]).a.length) := by
  induction fs generalizing k with
  | nil => simp at hk
  | cons f r ih =>
    cases k with
    | zero => simp [parts]
    | succ k => simp only [List.take_succ_cons, parts, List.getElem_cons_succ]; rw [ih k (by simpa using hk)]; omega
theorem parts_le (fs : List Fc) (k : Nat) : parts (fs.take k) ≤ parts fs := by
  induction fs generalizing k with
  | nil => simp
  | cons f r ih =>
    cases k with
    | zero => simp [parts]
    | succ k => simp only [List.take_succ_cons, parts]; have := ih k; omega

set_option maxHeartbeats 400000 in
theorem beyondF_any (a : Value) (fs : List Fc) (w : World) (ha : Facs w a fs) :
    Calls Tryd.prog 5 #[a] w fun e w' => e = .returned (.bool (decide (1048576 < parts fs))) ∧ w' = w := by
  obtain ⟨A, cap, rfl, hl, hm⟩ := SlRep.form ha
  go_enter Tryd.func5, Tryd.ntmps5
  go_wp2
  go_loop [3, 4] (fun n i => ∃ k : Nat, k ≤ fs.length ∧ parts (fs.take k) ≤ 1048576 ∧ i = .int .i64 k ∧ n = .int .i64 (parts (fs.take k))) (fun _ i => fs.length - (intOf i).toNat)
  case atStart => exact ⟨0, Nat.zero_le _, by simp [parts], rfl, by simp [parts]⟩
  case round =>
    obtain ⟨k, hk, hp, rfl, rfl⟩ := hrel
    by_cases hlt : k < fs.length
    · obtain ⟨b, off, A', cap', rfl, _, x0, x1, hl', hm', _⟩ := Facs.at_ ha hlt
      have hpt := Lib.hid (parts_take fs k hlt)
      have hpl := Lib.hid (parts_le fs (k + 1))
      go_wp2
      · go_ret
        refine ⟨?_, rfl⟩
        have h1 := hpt.out
        have h2 := hpl.out
        rw [decide_eq_true (by omega)]
        rfl
      · go_round
        case rel => exact ⟨k + 1, by omega, by have h1 := hpt.out; omega, by go_num, by rw [hpt.out]; go_num⟩
        case measure => simp [intOf]; omega
    · obtain rfl : k = fs.length := by omega
      go_wp2
      go_ret
      refine ⟨?_, rfl⟩
      rw [List.take_length] at hp
      rw [decide_eq_false (by omega)]
      rfl

def Fc.cells (f : Fc) (u : Value) : List Value := [.string f.p, u]
set_option maxHeartbeats 400000 in
theorem twinF_any (f : Fc) (u : Value) (w : World) (hu : Vals w u f.a) (hn : f.a.length < 4398046511104) :
    Calls Tryd.prog 11 #[.agg #[.string f.p, u]] w fun e w' => ∃ v, e = .returned (.agg #[.string f.p, v]) ∧ TwinR w.heap.size w' v f.a ∧ Fut w w' := by
  obtain ⟨A, cap, rfl, hl, hm⟩ := SlRep.form hu
  go_enter Tryd.func11, Tryd.ntmps11
  go_wp2_with fail
  refine (twin_any _ f.a _ (hu.fut RV.stays ?_) hn).mono ?_
  · exact (Fut.alloc _ _).trans (Fut.alloc _ _)
  rintro e w1 ⟨v, rfl, ht, h1⟩
  obtain ⟨g, hg, rfl, hblk⟩ := ht
  have c00 : w1.cell? ⟨w.heap.size, 0, none⟩ = some (.string f.p) := h1.cell (by go_simp)
  have c01 : w1.cell? ⟨w.heap.size, 1, none⟩ = some (.slice A f.a.length cap) := h1.cell (by go_simp)
  have c10 : w1.cell? ⟨w.heap.size + 1, 0, none⟩ = some (.string ⟨#[]⟩) := h1.cell (by go_simp)
  have c11 : w1.cell? ⟨w.heap.size + 1, 1, none⟩ = some (.slice none 0 0) := h1.cell (by go_simp)
  have z01 : w1.frozen? ⟨w.heap.size, 1, none⟩ = false := h1.free (by simp <;> omega) (by go_simp)
  have z10 : w1.frozen? ⟨w.heap.size + 1, 0, none⟩ = false := h1.free (by simp <;> omega) (by go_simp)
  have z11 : w1.frozen? ⟨w.heap.size + 1, 1, none⟩ = false := h1.free (by simp <;> omega) (by go_simp)
  have hg' : w.heap.size + 2 ≤ g := by simpa using hg
  have HG := Lib.hid hg'
  have HB := Lib.hid hblk
  clear hg hg' hblk
  go_wp2
  refine bodyPost_ret (v := .agg #[.string f.p, .slice (some ⟨g, 0, none⟩) f.a.length (f.a.length + 1)]) (by simp [results, Tryd.results11, go_sem, c10, c11, z10, z11]) rfl ⟨_, rfl, ⟨g, ?_, rfl, ?_⟩, ?_⟩
  · have := HG.out; omega
  · exact ((HB.out.far (by have := HG.out; simp only; omega) _).far (by have := HG.out; simp only; omega) _).far (by have := HG.out; simp only; omega) _
  · exact (((((Fut.alloc _ _).trans (Fut.alloc _ _)).trans h1).set (Nat.le_refl _) _).set (Nat.le_succ _) _).set (Nat.le_succ _) _

set_option maxHeartbeats 400000 in
theorem leftF_any (B : Nat) (f : Fc) (v u : Value) (w : World) (ht : TwinR B w v f.a) (hu : Vals w u f.a) (hn : f.a.length < 4398046511104) :
    Calls Tryd.prog 22 #[.agg #[.string f.p, v], .agg #[.string f.p, u]] w fun e w' => e = .returned (.bool true) ∧ Fut w w' := by
  obtain ⟨A, cap, rfl, hl, hm⟩ := SlRep.form hu
  have ht0 := ht
  obtain ⟨g, hg, rfl, hblk⟩ := ht
  have HB := Lib.hid hblk
  clear hblk
  go_enter Tryd.func22, Tryd.ntmps22
  go_wp2_with fail
  refine (left_any B _ _ f.a _ (ht0.fut ?_) (hu.fut RV.stays ?_) hn).mono ?_
  · exact (Fut.alloc _ _).trans (Fut.alloc _ _)
  · exact (Fut.alloc _ _).trans (Fut.alloc _ _)
  rintro e w1 ⟨rfl, h1⟩
  go_wp2
  go_ret
  exact ⟨rfl, ((Fut.alloc _ _).trans (Fut.alloc _ _)).trans h1⟩

def cmpF (f g : Fc) : Int := firstNZ [cmpS f.p g.p, cmpT f.a g.a]
set_option maxHeartbeats 400000 in
theorem cmpF_any (f g : Fc) (u v : Value) (w : World) (hu : Vals w u f.a) (hv : Vals w v g.a) :
    Calls Tryd.prog 34 #[.agg #[.string f.p, u], .agg #[.string g.p, v]] w fun e w' => e = .returned (.int .i64 (cmpF f g)) ∧ Fut w w' := by
  obtain ⟨A, cap, rfl, hl, hm⟩ := SlRep.form hu
  obtain ⟨B, cap', rfl, hl', hm'⟩ := SlRep.form hv
  have hf0 : ∀ X Y, Fut w ((w.alloc X).alloc Y).drew := fun X Y => ((Fut.alloc _ _).trans (Fut.alloc _ _)).trans (Fut.drew _)
  go_enter Tryd.func34, Tryd.ntmps34
  go_wp2
  refine wp_graph 13 [.d, .d, .d, .d, .d, .d, .d, .d, .d, .d, .r (fun v w => SlRep 1 17592186044416 RI w v [cmpS f.p g.p, cmpT f.a g.a]), .d, .d] (by kernel_rfl) (by kernel_rfl) (by kernel_rfl) ?_
  simp only [List.take_succ_cons, List.take_zero, List.drop_succ_cons, List.drop_zero, Exs]
  iterate 12 apply Exists.intro
  apply Run.valG (wanted_none rfl _)
  · intro w1 h1 hk
    have cx_0_0 : w1.cell? ⟨w.heap.size, 0, none⟩ = some (.string f.p) := Fut.cell h1 (by first | exact c0_0_0 | go_simp)
    have cx_0_1 : w1.cell? ⟨w.heap.size, 1, none⟩ = some (.slice A f.a.length cap) := Fut.cell h1 (by first | exact c0_0_1 | go_simp)
    have cx_1_0 : w1.cell? ⟨w.heap.size + 1, 0, none⟩ = some (.string g.p) := Fut.cell h1 (by first | exact c0_1_0 | go_simp)
    have cx_1_1 : w1.cell? ⟨w.heap.size + 1, 1, none⟩ = some (.slice B g.a.length cap') := Fut.cell h1 (by first | exact c0_1_1 | go_simp)
    go_simp; rfl
  simp only [Act.put, List.setIfInBounds_toArray, List.set_cons_succ, List.set_cons_zero, List.nil_append, List.cons_append]
  apply Run.valG (wanted_none rfl _)
  · intro w1 h1 hk
    have cx_0_0 : w1.cell? ⟨w.heap.size, 0, none⟩ = some (.string f.p) := Fut.cell h1 (by first | exact c0_0_0 | go_simp)
    have cx_0_1 : w1.cell? ⟨w.heap.size, 1, none⟩ = some (.slice A f.a.length cap) := Fut.cell h1 (by first | exact c0_0_1 | go_simp)
    have cx_1_0 : w1.cell? ⟨w.heap.size + 1, 0, none⟩ = some (.string g.p) := Fut.cell h1 (by first | exact c0_1_0 | go_simp)
    have cx_1_1 : w1.cell? ⟨w.heap.size + 1, 1, none⟩ = some (.slice B g.a.length cap') := Fut.cell h1 (by first | exact c0_1_1 | go_simp)
    go_simp; rfl
  simp only [Act.put, List.setIfInBounds_toArray, List.set_cons_succ, List.set_cons_zero, List.nil_append, List.cons_append]
  apply Run.valG (wanted_none rfl _)
  · intro w1 h1 hk
    have cx_0_0 : w1.cell? ⟨w.heap.size, 0, none⟩ = some (.string f.p) := Fut.cell h1 (by first | exact c0_0_0 | go_simp)
    have cx_0_1 : w1.cell? ⟨w.heap.size, 1, none⟩ = some (.slice A f.a.length cap) := Fut.cell h1 (by first | exact c0_0_1 | go_simp)
    have cx_1_0 : w1.cell? ⟨w.heap.size + 1, 0, none⟩ = some (.string g.p) := Fut.cell h1 (by first | exact c0_1_0 | go_simp)
    have cx_1_1 : w1.cell? ⟨w.heap.size + 1, 1, none⟩ = some (.slice B g.a.length cap') := Fut.cell h1 (by first | exact c0_1_1 | go_simp)
    go_simp; rfl
  simp only [Act.put, List.setIfInBounds_toArray, List.set_cons_succ, List.set_cons_zero, List.nil_append, List.cons_append]
  apply Run.valG (wanted_none rfl _)
  · intro w1 h1 hk
    have cx_0_0 : w1.cell? ⟨w.heap.size, 0, none⟩ = some (.string f.p) := Fut.cell h1 (by first | exact c0_0_0 | go_simp)
    have cx_0_1 : w1.cell? ⟨w.heap.size, 1, none⟩ = some (.slice A f.a.length cap) := Fut.cell h1 (by first | exact c0_0_1 | go_simp)
    have cx_1_0 : w1.cell? ⟨w.heap.size + 1, 0, none⟩ = some (.string g.p) := Fut.cell h1 (by first | exact c0_1_0 | go_simp)
    have cx_1_1 : w1.cell? ⟨w.heap.size + 1, 1, none⟩ = some (.slice B g.a.length cap') := Fut.cell h1 (by first | exact c0_1_1 | go_simp)
    go_simp; rfl
  simp only [Act.put, List.setIfInBounds_toArray, List.set_cons_succ, List.set_cons_zero, List.nil_append, List.cons_append]
  apply Run.call (wanted_none rfl _) (fun _ _ => by go_simp; exact ⟨rfl, rfl⟩)
  · intro w1 h1 hk
    have cx_0_0 : w1.cell? ⟨w.heap.size, 0, none⟩ = some (.string f.p) := Fut.cell h1 (by first | exact c0_0_0 | go_simp)
    have cx_0_1 : w1.cell? ⟨w.heap.size, 1, none⟩ = some (.slice A f.a.length cap) := Fut.cell h1 (by first | exact c0_0_1 | go_simp)
    have cx_1_0 : w1.cell? ⟨w.heap.size + 1, 0, none⟩ = some (.string g.p) := Fut.cell h1 (by first | exact c0_1_0 | go_simp)
    have cx_1_1 : w1.cell? ⟨w.heap.size + 1, 1, none⟩ = some (.slice B g.a.length cap') := Fut.cell h1 (by first | exact c0_1_1 | go_simp)
    exact (Tryd.strings_Compare _ _ _).mono fun e w' ⟨h, hw⟩ => ⟨h, hw ▸ Fut.refl _⟩
  simp only [Act.put, List.setIfInBounds_toArray, List.set_cons_succ, List.set_cons_zero, List.nil_append, List.cons_append]
  apply Run.valG (wanted_none rfl _)
  · intro w1 h1 hk
    have cx_0_0 : w1.cell? ⟨w.heap.size, 0, none⟩ = some (.string f.p) := Fut.cell h1 (by first | exact c0_0_0 | go_simp)
    have cx_0_1 : w1.cell? ⟨w.heap.size, 1, none⟩ = some (.slice A f.a.length cap) := Fut.cell h1 (by first | exact c0_0_1 | go_simp)
    have cx_1_0 : w1.cell? ⟨w.heap.size + 1, 0, none⟩ = some (.string g.p) := Fut.cell h1 (by first | exact c0_1_0 | go_simp)
    have cx_1_1 : w1.cell? ⟨w.heap.size + 1, 1, none⟩ = some (.slice B g.a.length cap') := Fut.cell h1 (by first | exact c0_1_1 | go_simp)
    go_simp; rfl
  simp only [Act.put, List.setIfInBounds_toArray, List.set_cons_succ, List.set_cons_zero, List.nil_append, List.cons_append]
  apply Run.valG (wanted_none rfl _)
  · intro w1 h1 hk
    have cx_0_0 : w1.cell? ⟨w.heap.size, 0, none⟩ = some (.string f.p) := Fut.cell h1 (by first | exact c0_0_0 | go_simp)
    have cx_0_1 : w1.cell? ⟨w.heap.size, 1, none⟩ = some (.slice A f.a.length cap) := Fut.cell h1 (by first | exact c0_0_1 | go_simp)
    have cx_1_0 : w1.cell? ⟨w.heap.size + 1, 0, none⟩ = some (.string g.p) := Fut.cell h1 (by first | exact c0_1_0 | go_simp)
    have cx_1_1 : w1.cell? ⟨w.heap.size + 1, 1, none⟩ = some (.slice B g.a.length cap') := Fut.cell h1 (by first | exact c0_1_1 | go_simp)
    go_simp; rfl
  simp only [Act.put, List.setIfInBounds_toArray, List.set_cons_succ, List.set_cons_zero, List.nil_append, List.cons_append]
  apply Run.valG (wanted_none rfl _)
  · intro w1 h1 hk
    have cx_0_0 : w1.cell? ⟨w.heap.size, 0, none⟩ = some (.string f.p) := Fut.cell h1 (by first | exact c0_0_0 | go_simp)
    have cx_0_1 : w1.cell? ⟨w.heap.size, 1, none⟩ = some (.slice A f.a.length cap) := Fut.cell h1 (by first | exact c0_0_1 | go_simp)
    have cx_1_0 : w1.cell? ⟨w.heap.size + 1, 0, none⟩ = some (.string g.p) := Fut.cell h1 (by first | exact c0_1_0 | go_simp)
    have cx_1_1 : w1.cell? ⟨w.heap.size + 1, 1, none⟩ = some (.slice B g.a.length cap') := Fut.cell h1 (by first | exact c0_1_1 | go_simp)
    go_simp; rfl
  simp only [Act.put, List.setIfInBounds_toArray, List.set_cons_succ, List.set_cons_zero, List.nil_append, List.cons_append]
  apply Run.valG (wanted_none rfl _)
  · intro w1 h1 hk
    have cx_0_0 : w1.cell? ⟨w.heap.size, 0, none⟩ = some (.string f.p) := Fut.cell h1 (by first | exact c0_0_0 | go_simp)
    have cx_0_1 : w1.cell? ⟨w.heap.size, 1, none⟩ = some (.slice A f.a.length cap) := Fut.cell h1 (by first | exact c0_0_1 | go_simp)
    have cx_1_0 : w1.cell? ⟨w.heap.size + 1, 0, none⟩ = some (.string g.p) := Fut.cell h1 (by first | exact c0_1_0 | go_simp)
    have cx_1_1 : w1.cell? ⟨w.heap.size + 1, 1, none⟩ = some (.slice B g.a.length cap') := Fut.cell h1 (by first | exact c0_1_1 | go_simp)
    go_simp; rfl
  simp only [Act.put, List.setIfInBounds_toArray, List.set_cons_succ, List.set_cons_zero, List.nil_append, List.cons_append]
  apply Run.call (wanted_none rfl _) (fun _ _ => by go_simp; exact ⟨rfl, rfl⟩)
  · intro w1 h1 hk
    have cx_0_0 : w1.cell? ⟨w.heap.size, 0, none⟩ = some (.string f.p) := Fut.cell h1 (by first | exact c0_0_0 | go_simp)
    have cx_0_1 : w1.cell? ⟨w.heap.size, 1, none⟩ = some (.slice A f.a.length cap) := Fut.cell h1 (by first | exact c0_0_1 | go_simp)
    have cx_1_0 : w1.cell? ⟨w.heap.size + 1, 0, none⟩ = some (.string g.p) := Fut.cell h1 (by first | exact c0_1_0 | go_simp)
    have cx_1_1 : w1.cell? ⟨w.heap.size + 1, 1, none⟩ = some (.slice B g.a.length cap') := Fut.cell h1 (by first | exact c0_1_1 | go_simp)
    exact cmpT_any _ _ f.a g.a _ (hu.fut RV.stays ((hf0 _ _).trans h1)) (hv.fut RV.stays ((hf0 _ _).trans h1))
  simp only [Act.put, List.setIfInBounds_toArray, List.set_cons_succ, List.set_cons_zero, List.nil_append, List.cons_append]
  apply Run.valR (wanted_none rfl _) (by intro v w w' hf hs; exact hs.fut RI.stays hf)
  · intro w1 h1 hk
    have cx_0_0 : w1.cell? ⟨w.heap.size, 0, none⟩ = some (.string f.p) := Fut.cell h1 (by first | exact c0_0_0 | go_simp)
    have cx_0_1 : w1.cell? ⟨w.heap.size, 1, none⟩ = some (.slice A f.a.length cap) := Fut.cell h1 (by first | exact c0_0_1 | go_simp)
    have cx_1_0 : w1.cell? ⟨w.heap.size + 1, 0, none⟩ = some (.string g.p) := Fut.cell h1 (by first | exact c0_1_0 | go_simp)
    have cx_1_1 : w1.cell? ⟨w.heap.size + 1, 1, none⟩ = some (.slice B g.a.length cap') := Fut.cell h1 (by first | exact c0_1_1 | go_simp)
    go_simp; exact ⟨_, _, ⟨rfl, rfl⟩, Fut.alloc _ _, ints_new w1 _ [cmpS f.p g.p, cmpT f.a g.a] (by simp)⟩
  intro v10
  simp only [Act.put, List.setIfInBounds_toArray, List.set_cons_succ, List.set_cons_zero, List.nil_append, List.cons_append]
  apply Run.call (wanted_none rfl _) (fun _ _ => by go_simp; exact ⟨rfl, rfl⟩)
  · intro w1 h1 hk
    have f10 := Facts.get hk 0 rfl (by kernel_rfl)
    have cx_0_0 : w1.cell? ⟨w.heap.size, 0, none⟩ = some (.string f.p) := Fut.cell h1 (by first | exact c0_0_0 | go_simp)
    have cx_0_1 : w1.cell? ⟨w.heap.size, 1, none⟩ = some (.slice A f.a.length cap) := Fut.cell h1 (by first | exact c0_0_1 | go_simp)
    have cx_1_0 : w1.cell? ⟨w.heap.size + 1, 0, none⟩ = some (.string g.p) := Fut.cell h1 (by first | exact c0_1_0 | go_simp)
    have cx_1_1 : w1.cell? ⟨w.heap.size + 1, 1, none⟩ = some (.slice B g.a.length cap') := Fut.cell h1 (by first | exact c0_1_1 | go_simp)
    exact (or_any _ _ _ f10).mono fun e w' ⟨h, hw⟩ => ⟨h, hw ▸ Fut.refl _⟩
  simp only [Act.put, List.setIfInBounds_toArray, List.set_cons_succ, List.set_cons_zero, List.nil_append, List.cons_append]
  apply Run.valG (wanted_none rfl _)
  · intro w1 h1 hk
    have cx_0_0 : w1.cell? ⟨w.heap.size, 0, none⟩ = some (.string f.p) := Fut.cell h1 (by first | exact c0_0_0 | go_simp)
    have cx_0_1 : w1.cell? ⟨w.heap.size, 1, none⟩ = some (.slice A f.a.length cap) := Fut.cell h1 (by first | exact c0_0_1 | go_simp)
    have cx_1_0 : w1.cell? ⟨w.heap.size + 1, 0, none⟩ = some (.string g.p) := Fut.cell h1 (by first | exact c0_1_0 | go_simp)
    have cx_1_1 : w1.cell? ⟨w.heap.size + 1, 1, none⟩ = some (.slice B g.a.length cap') := Fut.cell h1 (by first | exact c0_1_1 | go_simp)
    go_simp; rfl
  simp only [Act.put, List.setIfInBounds_toArray, List.set_cons_succ, List.set_cons_zero, List.nil_append, List.cons_append]
  apply Run.done
  intro w2 h2 hk
  have c2_0_0 : w2.cell? ⟨w.heap.size, 0, none⟩ = some (.string f.p) := Fut.cell h2 (by first | exact c0_0_0 | go_simp)
  have c2_0_1 : w2.cell? ⟨w.heap.size, 1, none⟩ = some (.slice A f.a.length cap) := Fut.cell h2 (by first | exact c0_0_1 | go_simp)
  have c2_1_0 : w2.cell? ⟨w.heap.size + 1, 0, none⟩ = some (.string g.p) := Fut.cell h2 (by first | exact c0_1_0 | go_simp)
  have c2_1_1 : w2.cell? ⟨w.heap.size + 1, 1, none⟩ = some (.slice B g.a.length cap') := Fut.cell h2 (by first | exact c0_1_1 | go_simp)
  obtain ⟨f10, _⟩ := hk
  go_wp2
  go_ret
  exact ⟨rfl, (hf0 _ _).trans h2⟩
theorem cmpF_spec (f g : Fc) : cmpF f g = if Op.bytesLess f.p.toList g.p.toList = true then -1 else if Op.bytesLess g.p.toList f.p.toList = true then 1 else cmpT f.a g.a := by
  rw [cmpBytes_less, cmpBytes_less, ByteArray.toList_eq, ByteArray.toList_eq]
  unfold cmpF cmpS
  rw [cmpBytes_swap f.p.data.toList g.p.data.toList]
  simp only [decide_eq_true_eq, firstNZ]
  rcases cmpBytes_range f.p.data.toList g.p.data.toList with h | h | h
  · simp [h]
  · simp only [h]
    by_cases h0 : cmpT f.a g.a = 0 <;> simp [h0]
  · simp [h]
set_option maxHeartbeats 400000 in
theorem rcmpF_any (f g : Fc) (u v : Value) (w : World) (hu : Vals w u f.a) (hv : Vals w v g.a) :
    Calls Tryd.prog 28 #[.agg #[.string f.p, u], .agg #[.string g.p, v]] w fun e w' => e = .returned (.int .i64 (cmpF f g)) ∧ Fut w w' := by
  obtain ⟨A, cap, rfl, hl, hm⟩ := SlRep.form hu
  obtain ⟨B, cap', rfl, hl', hm'⟩ := SlRep.form hv
  have hf0 : ∀ X Y, Fut w ((w.alloc X).alloc Y) := fun X Y => ((Fut.alloc _ _).trans (Fut.alloc _ _))
  have hspec := Lib.hid (cmpF_spec f g)
  by_cases c1 : Op.bytesLess f.p.toList g.p.toList = true
  · go_enter Tryd.func28, Tryd.ntmps28
    go_wp2
    go_ret
    refine ⟨?_, hf0 _ _⟩
    rw [hspec.out, if_pos c1]
    rfl
  · have c1' : Op.bytesLess f.p.toList g.p.toList = false := by simpa using c1
    have C1 := Lib.hid c1
    clear c1
    by_cases c2 : Op.bytesLess g.p.toList f.p.toList = true
    · have c3 : (f.p.toList == g.p.toList) = false := by
        rw [beq_eq_false_iff_ne]
        intro e
        rw [e, bytesLess_irrefl] at c2
        cases c2
      go_enter Tryd.func28, Tryd.ntmps28
      go_wp2
      go_ret
      refine ⟨?_, hf0 _ _⟩
      rw [hspec.out, if_neg C1.out, if_pos c2]
      rfl
    · have c2' : Op.bytesLess g.p.toList f.p.toList = false := by simpa using c2
      have c3 : (f.p.toList == g.p.toList) = true := by
        rw [beq_iff_eq]
        rw [cmpBytes_less, decide_eq_false_iff_not] at c1' c2'
        rw [cmpBytes_swap f.p.toList] at c2'
        exact (cmpBytes_zero _ _).1 (by omega)
      have C2 := Lib.hid c2
      clear c2
      go_enter Tryd.func28, Tryd.ntmps28
      go_wp2_with fail
      refine (rcmpT_any _ _ f.a g.a _ (hu.fut RV.stays (hf0 _ _)) (hv.fut RV.stays (hf0 _ _))).mono ?_
      rintro e w1 ⟨rfl, h1⟩
      go_wp2
      go_ret
      refine ⟨?_, (hf0 _ _).trans h1⟩
      rw [hspec.out, if_neg C1.out, if_neg C2.out]
      rfl

end Go.Proofs.YtkdnplebgmmclaaDoor
/- The orders are orders: of values, of tuples, of facts. Plain; no program. -/
namespace Go.Proofs.YtkdnplebgmmclaaDoor
open Go.RowKit
set_option linter.unusedSimpArgs false
set_option linter.unusedVariables false

def cmpU (a b : UInt8) : Int := if a < b then -1 else if b < a then 1 else 0
theorem ordU : Ord3 cmpU := by
  have key : ∀ a b, cmpU a b = cmpI a.toNat b.toNat := fun a b => by
    unfold cmpU cmpI
    simp only [UInt8.lt_iff_toNat_lt]
    (repeat' split) <;> omega
  constructor
  · intro x y; rw [key]; exact ordI.rng _ _
  · intro x y; rw [key, key]; exact ordI.swap _ _
  · intro x y
    rw [key, ordI.zero]
    exact ⟨fun e => UInt8.toNat_inj.1 (by omega), fun e => by rw [e]⟩
  · intro x y z; rw [key, key, key]; exact ordI.tr _ _ _
theorem cmpBytes_lcmp : ∀ a b : List UInt8, Lib.compareBytes a b = lcmp cmpU a b
  | [], [] => rfl
  | [], _ :: _ => rfl
  | _ :: _, [] => rfl
  | a :: r, b :: q => by
    simp only [Lib.compareBytes, lcmp, cmpU]
    by_cases h1 : a < b
    · simp [h1]
    · by_cases h2 : b < a
      · simp [h1, h2]
      · simp [h1, h2, cmpBytes_lcmp r q]
theorem ordS : Ord3 cmpS := by
  have h := lcmp_ord ordU
  have key : ∀ a b, cmpS a b = lcmp cmpU a.data.toList b.data.toList := fun a b => cmpBytes_lcmp _ _
  exact ⟨fun x y => by rw [key]; exact h.rng _ _, fun x y => by rw [key, key]; exact h.swap _ _,
    fun x y => by rw [key, h.zero]; exact ⟨fun e => WideShapes.bytes_inj e, fun e => by rw [e]⟩, fun x y z => by rw [key, key, key]; exact h.tr _ _ _⟩
theorem ordV : Ord3 cmpV := by
  have h2 : Ord3 (fun x y : Int × ByteArray => lex (cmpI x.1 y.1) (cmpS x.2 y.2)) := lex_ord ordI ordS (·.1) (·.2) fun x y e1 e2 => Prod.ext e1 e2
  have h3 : Ord3 (fun x y : V => lex (cmpI x.k y.k) (lex (cmpI x.n y.n) (cmpS x.s y.s))) := lex_ord (γ := V) ordI h2 (·.k) (fun x => (x.n, x.s)) fun x y e1 e2 => by
    obtain ⟨k, n, s⟩ := x
    obtain ⟨k', n', s'⟩ := y
    simp only [Prod.mk.injEq] at e1 e2
    obtain ⟨e2, e3⟩ := e2
    subst e1; subst e2; subst e3; rfl
  have key : cmpV = fun x y : V => lex (cmpI x.k y.k) (lex (cmpI x.n y.n) (cmpS x.s y.s)) := by
    funext x y
    simp only [cmpV, firstNZ, lex]
    by_cases a : cmpS x.s y.s = 0 <;> simp [a]
  rw [key]; exact h3
theorem ordT : Ord3 cmpT := by
  have key : ∀ x y, cmpT x y = lcmp cmpV x y := by
    intro x
    induction x with
    | nil => intro y; cases y <;> rfl
    | cons a r ih =>
      intro y
      cases y with
      | nil => rfl
      | cons b q => simp only [cmpT, lcmp, ih]
  have h := lcmp_ord ordV
  exact ⟨fun x y => by rw [key]; exact h.rng _ _, fun x y => by rw [key, key]; exact h.swap _ _, fun x y => by rw [key]; exact h.zero _ _, fun x y z => by rw [key, key, key]; exact h.tr _ _ _⟩
theorem ordF : Ord3 cmpF := by
  have h3 : Ord3 (fun x y : Fc => lex (cmpS x.p y.p) (cmpT x.a y.a)) := lex_ord (γ := Fc) ordS ordT (·.p) (·.a) fun x y e1 e2 => by
    obtain ⟨p, a⟩ := x
    obtain ⟨p', a'⟩ := y
    simp only at e1 e2
    subst e1; subst e2; rfl
  have key : cmpF = fun x y : Fc => lex (cmpS x.p y.p) (cmpT x.a y.a) := by
    funext x y
    simp only [cmpF, firstNZ, lex]
    by_cases a : cmpT x.a y.a = 0 <;> simp [a]
  rw [key]; exact h3

end Go.Proofs.YtkdnplebgmmclaaDoor
/- A map's names in order, plainly. No program. -/
namespace Go.Proofs.YtkdnplebgmmclaaDoor
open Go.RowKit
set_option linter.unusedSimpArgs false
set_option linter.unusedVariables false

theorem list_lt : ∀ a b : List UInt8, a < b ↔ Lib.compareBytes a b < 0
  | [], [] => by simp [Lib.compareBytes]
  | [], _ :: _ => by simp [Lib.compareBytes]
  | _ :: _, [] => by simp [Lib.compareBytes]
  | x :: a, y :: b => by
    rw [List.cons_lt_cons_iff, Lib.compareBytes]
    by_cases h1 : x < y
    · simp [h1]
    · rw [if_neg h1]
      by_cases h2 : y < x
      · rw [if_pos h2]
        have hne : x ≠ y := fun e => by subst e; exact absurd h2 (UInt8.lt_irrefl _)
        simp [h1, hne]
      · rw [if_neg h2]
        have e : x = y := by
          have h3 := UInt8.not_lt.1 h1
          have h4 := UInt8.not_lt.1 h2
          exact UInt8.le_antisymm h4 h3
        subst e
        rw [list_lt a b]
        simp
def bytesOf' (l : List UInt8) : ByteArray := ⟨l.toArray⟩
/-- What mergeSort makes of the names, each of which stands there once, is what sortU makes. -/
theorem merge_names {ss : List (List UInt8)} {N : List ByteArray} (hp : ss.Perm (N.map (·.data.toList))) (hn : N.Nodup) : (ss.mergeSort (fun x y => decide (x ≤ y))).map bytesOf' = sortU cmpS N := by
  have hT : TotC cmpS := ⟨ordS.zero, ordS.swap, fun x y z h1 h2 => ordS.lt h1 (by omega)⟩
  have hperm : (ss.mergeSort (fun x y => decide (x ≤ y))).Perm (N.map (·.data.toList)) := (List.mergeSort_perm _ _).trans hp
  have hid : ∀ b : ByteArray, bytesOf' b.data.toList = b := fun b => rfl
  have hinj : ∀ a b : ByteArray, a.data.toList = b.data.toList → a = b := fun a b h => ByteArray.ext (Array.toList_inj.1 h)
  have hnd : (ss.mergeSort (fun x y => decide (x ≤ y))).Nodup := by
    refine hperm.nodup_iff.2 ?_
    exact (List.pairwise_map.2 (hn.imp fun h e => h (hinj _ _ e)))
  have hst : (ss.mergeSort (fun x y => decide (x ≤ y))).Pairwise (fun x y => (decide (x ≤ y)) = true) := List.pairwise_mergeSort (fun a b c h1 h2 => by
      have h1 := of_decide_eq_true h1
      have h2 := of_decide_eq_true h2
      exact decide_eq_true (List.le_trans h1 h2)) (fun a b => by
      rcases List.le_total a b with h | h <;> simp [h]) _
  refine Up.uniq hT ?_ (sortU_spec hT N).1 fun x => ?_
  · refine List.pairwise_map.2 ((hst.and hnd).imp fun {x y} h => ?_)
    have h1 : x ≤ y := of_decide_eq_true h.1
    have h2 : x < y := by
      rcases List.le_iff_lt_or_eq.1 h1 with h3 | h3
      · exact h3
      · exact absurd h3 h.2
    exact (list_lt x y).1 h2
  · rw [(sortU_spec hT N).2 x, List.mem_map]
    constructor
    · rintro ⟨l, hl, rfl⟩
      obtain ⟨b, hb, rfl⟩ := List.mem_map.1 (hperm.mem_iff.1 hl)
      exact hb
    · intro hx
      exact ⟨x.data.toList, hperm.mem_iff.2 (List.mem_map.2 ⟨x, hx, rfl⟩), rfl⟩
end Go.Proofs.YtkdnplebgmmclaaDoor
/- The sizes of facts, plainly: a predicate's facts counted, and the unlike values of its columns. No program. -/
namespace Go.Proofs.YtkdnplebgmmclaaDoor
open Go.RowKit
set_option linter.unusedSimpArgs false
set_option linter.unusedVariables false

structure Sz where
  p : ByteArray
  rows : Nat
  ds : List Nat
deriving DecidableEq
def szOf (X : List Fc) (p : ByteArray) : Sz := ⟨p, (ofP p X).length, (colsF [] ((ofP p X).map (·.a))).map List.length⟩
def sizesOf (X : List Fc) : List Sz := (sortU cmpS (X.map (·.p))).map (szOf X)
theorem tot_of {α : Type} {c : α → α → Int} (h : Ord3 c) : TotC c := ⟨h.zero, h.swap, fun x y z h1 h2 => h.lt h1 (by omega)⟩
theorem totS : TotC cmpS := tot_of ordS
theorem names_eq {es : List En} {X : List Fc} (h : CntI es (X.map (·.p)) X) : sortU cmpS (es.map (·.p)) = sortU cmpS (X.map (·.p)) :=
  sortU_congr totS fun x => by rw [h.names, mem_ddV]
theorem en_of {es : List En} {N : List ByteArray} {Y : List Fc} (h : CntI es N Y) {p : ByteArray} (hp : p ∈ es.map (·.p)) : ∃ (j : Nat) (e : En), es[j]? = some e ∧ e.p = p := by
  obtain ⟨e, he, rfl⟩ := List.mem_map.1 hp
  obtain ⟨j, hj⟩ := List.mem_iff_getElem?.1 he
  exact ⟨j, e, hj, rfl⟩
theorem sz_en {es : List En} {N : List ByteArray} {X : List Fc} (h : CntI es N X) {e : En} (he : e ∈ es) : szOf X e.p = ⟨e.p, e.rows, e.cols.map (·.2.length)⟩ := by
  unfold szOf
  rw [← h.cols e he, ← h.rows e he, List.map_map]; rfl
/-- Facts in order: names do not fall. -/
theorem names_up {X : List Fc} (h : Up cmpF X) {i j : Nat} (hij : i < j) (hj : j < X.length) : cmpS X[i].p X[j].p ≤ 0 := by
  have h1 := (List.pairwise_iff_getElem.1 h) i j (by omega) hj hij
  unfold cmpF firstNZ at h1
  have h2 := cmpBytes_range X[i].p.data.toList X[j].p.data.toList
  by_cases h3 : cmpS X[i].p X[j].p = 0
  · omega
  · rcases Int.lt_trichotomy (cmpS X[i].p X[j].p) 0 with h4 | h4 | h4
    · omega
    · exact absurd h4 h3
    · exfalso
      simp [h3] at h1
      omega
/-- The names of the first k facts, each once. -/
def heads (X : List Fc) (k : Nat) : List ByteArray := sortU cmpS ((X.take k).map (·.p))
theorem heads_same {X : List Fc} {k : Nat} (h0 : 0 < k) (hk : k < X.length) (he : X[k].p = (X[k - 1]'(by omega)).p) : heads X (k + 1) = heads X k := by
  unfold heads
  refine sortU_congr totS fun x => ?_
  rw [List.take_succ_eq_append_getElem hk, List.map_append, List.mem_append]
  constructor
  · rintro (h | h)
    · exact h
    · simp only [List.map_cons, List.map_nil, List.mem_singleton] at h
      subst h
      rw [he]
      refine List.mem_map.2 ⟨X[k - 1]'(by omega), List.mem_iff_getElem.2 ⟨k - 1, by rw [List.length_take]; omega, by rw [List.getElem_take]⟩, rfl⟩
  · exact fun h => .inl h
theorem heads_more {X : List Fc} (hX : Up cmpF X) {k : Nat} (hk : k < X.length) (he : k = 0 ∨ ∃ h0 : k - 1 < X.length, X[k].p ≠ X[k - 1].p) : heads X (k + 1) = heads X k ++ [X[k].p] := by
  unfold heads
  have hs := sortU_spec totS ((X.take k).map (·.p))
  refine (UpOf.eq totS ⟨hs.1.snoc fun y hy => ?_, fun x => ?_⟩).symm
  · obtain ⟨f, hf, rfl⟩ := List.mem_map.1 ((hs.2 y).1 hy)
    obtain ⟨i, hi, rfl⟩ := List.mem_iff_getElem.1 hf
    rw [List.length_take] at hi
    rw [List.getElem_take]
    rcases he with rfl | ⟨h0, he⟩
    · omega
    · have h1 : cmpS X[k - 1].p X[k].p ≤ 0 := names_up hX (by omega) hk
      have h2 : cmpS X[k - 1].p X[k].p ≠ 0 := fun h => he ((totS.eq0 _ _).1 h).symm
      have h3 : cmpS X[k - 1].p X[k].p < 0 := by omega
      by_cases hik : i = k - 1
      · subst hik; exact h3
      · have h4 : cmpS X[i].p X[k - 1].p ≤ 0 := names_up hX (by omega) h0
        by_cases h5 : cmpS X[i].p X[k - 1].p = 0
        · rw [(totS.eq0 _ _).1 h5]; exact h3
        · exact totS.trans _ _ _ (by omega) h3
  · rw [List.mem_append, hs.2 x, List.take_succ_eq_append_getElem hk, List.map_append, List.mem_append]; simp
theorem heads_all (X : List Fc) : heads X X.length = sortU cmpS (X.map (·.p)) := by unfold heads; rw [List.take_length]
/-- The document's count of a column. -/
def colT (X : List Fc) (p : ByteArray) (c : Nat) : List (List V) := (colOf ((ofP p X).map (·.a)) c).map fun v => [v]
theorem colT_len (X : List Fc) (p : ByteArray) {c : Nat} (hc : c < (colsF [] ((ofP p X).map (·.a))).length) : (sortU cmpT (colT X p c)).length = ((colsF [] ((ofP p X).map (·.a)))[c]).length := by
  have hT : TotC cmpT := tot_of ordT
  have h1 := colsF_at ((ofP p X).map (·.a)) [] c
  have h2 : (colsF [] ((ofP p X).map (·.a))).getD c [] = (colsF [] ((ofP p X).map (·.a)))[c] := by simp [List.getD, hc]
  rw [h2] at h1
  rw [h1]
  have e0 : ([] : List (List V)).getD c [] = [] := by simp
  rw [e0]
  show _ = (ddV _).length
  have h3 : (ddV (colOf ((ofP p X).map (·.a)) c)).length = ((ddV (colOf ((ofP p X).map (·.a)) c)).map fun v => [v]).length := by rw [List.length_map]
  rw [h3]
  refine nodup_same_len ?_ ?_ fun x => ?_
  · refine List.Pairwise.imp ?_ (sortU_spec hT (colT X p c)).1
    intro a b h e
    subst e
    exact hT.irr a h
  · exact List.pairwise_map.2 ((ddV_nodup _).imp fun h e => h (by injection e))
  · rw [(sortU_spec hT _).2 x]
    unfold colT
    rw [List.mem_map, List.mem_map]
    exact ⟨fun ⟨v, h, e⟩ => ⟨v, mem_ddV.2 h, e⟩, fun ⟨v, h, e⟩ => ⟨v, mem_ddV.1 h, e⟩⟩
theorem ofP_take {X : List Fc} {k : Nat} (hk : k < X.length) (p : ByteArray) : ofP p (X.take (k + 1)) = if X[k].p = p then ofP p (X.take k) ++ [X[k]] else ofP p (X.take k) := by
  rw [List.take_succ_eq_append_getElem hk, ofP_snoc]
theorem ddV_len {α : Type} [DecidableEq α] (l : List α) : (ddV l).length ≤ l.length := by
  have h : ∀ (l a : List α), (l.foldl addV a).length ≤ a.length + l.length := fun l => by
    induction l with
    | nil => intro a; simp
    | cons x r ih =>
      intro a
      rw [List.foldl_cons]
      have h1 := ih (addV a x)
      have h2 : (addV a x).length ≤ a.length + 1 := by unfold addV; split <;> simp
      rw [List.length_cons]; omega
  have := h l []
  rw [List.length_nil, Nat.zero_add] at this
  exact this
theorem sortU_lenS {α : Type} {c : α → α → Int} : ∀ l : List α, (sortU c l).length ≤ l.length := fun l => by
  have hi : ∀ (x : α) (m : List α), (insU c x m).length ≤ m.length + 1 := fun x m => by
    induction m with
    | nil => simp [insU]
    | cons y r ih =>
      unfold insU
      split
      · simp
      · split
        · simp
        · simp only [List.length_cons]; omega
  induction l with
  | nil => simp [sortU]
  | cons x r ih =>
    have h := hi x (sortU c r)
    show (insU c x (sortU c r)).length ≤ _
    rw [List.length_cons]; omega
theorem fold_max {α : Type} {B : Nat} {n : Nat} (hn : n ≤ B) : ∀ {l : List (List α)}, (∀ t ∈ l, t.length ≤ B) → l.foldl (fun n t => max n t.length) n ≤ B := fun {l} => by
  induction l generalizing n with
  | nil => intro _; exact hn
  | cons t r ih => intro h; rw [List.foldl_cons]; exact ih (Nat.max_le.2 ⟨hn, h t List.mem_cons_self⟩) fun u hu => h u (List.mem_cons_of_mem _ hu)
end Go.Proofs.YtkdnplebgmmclaaDoor
/- The world behind slices.SortFunc: a row of the call's own has been written over; lists and rows. Generic; no program. -/
namespace Go.Proofs.YtkdnplebgmmclaaDoor
open Go.RowKit Go.Sort
set_option linter.unusedSimpArgs false
set_option linter.unusedVariables false

section
variable {α : Type} [Inhabited α]
theorem below_sort (enc : α → Value) (w : World) (blk off m : Nat) (d : Array α) (os : Array Obj) (B : Nat) (hB : B ≤ blk) (hw : B ≤ w.heap.size) : Below B w (sortWorld enc w blk off m d os) := by
  refine ⟨rfl, rfl, rfl, ?_, fun j hj => ?_⟩
  · simp [sortWorld, putRow, mapBlock, Sort.ahead, grow]
  · have hne : blk ≠ j := by omega
    unfold sortWorld
    rw [heap_grow_old _ _ (by simp [putRow, mapBlock, Sort.ahead]; omega)]
    simp [putRow, mapBlock, Sort.ahead, Array.getElem?_modify, hne]
theorem fut_sort {w0 w : World} (h : Fut w0 w) (enc : α → Value) (blk off m : Nat) (d : Array α) (os : Array Obj) (hb : w0.heap.size ≤ blk) : Fut w0 (sortWorld enc w blk off m d os) :=
  Below.trans h (below_sort enc w blk off m d os _ hb h.size)
theorem fut_sortK {w0 w : World} (h : Fut w0 w) (enc : α → List Value) (k blk off m : Nat) (d : Array α) (os : Array Obj) (hb : w0.heap.size ≤ blk) : Fut w0 (sortWorldK enc k w blk off m d os) :=
  fut_sort h id blk off m (flatK enc k d) os hb
theorem perm_of_in {d d' : Array α} (h : PermIn 0 d.size d d') : d'.toList.Perm d.toList := by
  obtain ⟨h1, _, h3⟩ := h
  rw [Array.extract_size] at h3
  rw [← h1, Array.extract_size] at h3
  exact h3
theorem sorted_of_in {β : Type} {c : β → β → Int} {f : α → β} {n : Nat} {d' : Array α} (h : SortedIn (ltOf fun x y => c (f x) (f y)) 0 n d') (hn : d'.size = n) : Sorted c (d'.toList.map f) := by
  unfold Sorted
  rw [List.pairwise_iff_getElem]
  intro i j hi hj hij
  simp only [List.length_map, Array.length_toList] at hi hj
  have h1 := h i j (Nat.zero_le _) hij (by omega)
  unfold ltOf at h1
  rw [decide_eq_false_iff_not] at h1
  rw [getElem!_pos d' j hj, getElem!_pos d' i hi] at h1
  simpa using h1
end

/-- Lists of a type with what each stands for. -/
theorem zip_sub {β γ : Type} {p : β × γ → Prop} : ∀ (vs : List β) (xs : List γ), vs.length = xs.length → (∀ (i : Nat) (v : β) (x : γ), vs[i]? = some v → xs[i]? = some x → p (v, x)) →
    ∃ d : List {q : β × γ // p q}, d.map (fun q => q.1.1) = vs ∧ d.map (fun q => q.1.2) = xs
  | [], [], _, _ => ⟨[], rfl, rfl⟩
  | [], _ :: _, h, _ => by simp at h
  | _ :: _, [], h, _ => by simp at h
  | v :: vs, x :: xs, h, hp => by
    obtain ⟨d, h1, h2⟩ := zip_sub vs xs (by simpa using h) fun i u y hi hy => hp (i + 1) u y (by simpa using hi) (by simpa using hy)
    exact ⟨⟨(v, x), hp 0 v x rfl rfl⟩ :: d, by simp [h1], by simp [h2]⟩
end Go.Proofs.YtkdnplebgmmclaaDoor
