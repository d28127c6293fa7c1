/- RefF, ResB, SortL, SortW, SortR, SortLayR, RangeIf, RelY, RelZ -/
import Derived.Sort.Statements
import Derived.Shelf.SlSortCmp.NoneTotal
import Derived.Shelf.SlSortCmp.WholeK
import Derived.Shelf.SlSortCmp.Whole1
import Derived.Ground.SlsfProg
import Derived.Test.YtcekphjcmippoaaProg
import Derived.Test.YtcekphjcmippoaaC11
/- The document's relation: Range; Select and Range where it is not there. -/
namespace Go.Proofs.Ytcekphjcmippoaa
open Go.RowKit Go.WideMaps
set_option linter.unusedSimpArgs false
set_option linter.unusedVariables false

/-- The numbered rows of a span, among the first k. -/
def nbK (xs : List Rw) (f t : Int) (k : Nat) : List Nb := (List.range (min k (hiS xs t) - loS f)).map fun j => ⟨((loS f + j : Nat) : Int), xs.getD (loS f + j) zeroRow⟩
def nbL (xs : List Rw) (f t : Int) : List Nb := nbK xs f t xs.length
theorem nbK_len (xs : List Rw) (f t : Int) (k : Nat) : (nbK xs f t k).length ≤ k := by
  unfold nbK
  simp
  omega
theorem nbL_len (xs : List Rw) (f t : Int) : (nbL xs f t).length = hiS xs t - loS f := by
  unfold nbL nbK hiS
  simp
  omega
theorem nbL_at (xs : List Rw) (f t : Int) {k : Nat} (hk : k < hiS xs t - loS f) : (nbL xs f t)[k]? = some ⟨((loS f + k : Nat) : Int), xs.getD (loS f + k) zeroRow⟩ := by
  have h := nbL_len xs f t
  unfold nbL nbK at h ⊢
  simp only [List.length_map, List.length_range] at h
  simp [h, hk]
theorem nbK_in {xs : List Rw} {f t : Int} {k : Nat} (hk : k < xs.length) (h1 : f ≤ k) (h2 : (k : Int) < t) : nbK xs f t (k + 1) = nbK xs f t k ++ [⟨(k : Int), xs.getD k zeroRow⟩] := by
  have a1 : loS f ≤ k := by unfold loS; omega
  have a2 : k < hiS xs t := by unfold hiS; omega
  unfold nbK
  rw [show min (k + 1) (hiS xs t) - loS f = (k - loS f) + 1 by omega, show min k (hiS xs t) - loS f = k - loS f by omega, List.range_succ, List.map_append]
  congr 1
  simp only [List.map_cons, List.map_nil]
  rw [show loS f + (k - loS f) = k by omega]
theorem nbK_out {xs : List Rw} {f t : Int} {k : Nat} (hk : k < xs.length) (h : ¬ (f ≤ k ∧ (k : Int) < t)) : nbK xs f t (k + 1) = nbK xs f t k := by
  unfold nbK
  congr 2
  unfold loS hiS
  omega
set_option maxHeartbeats 1600000 in
set_option maxRecDepth 100000 in
theorem rrange_any {B : Nat} {w : World} {b : Nat} {v : Value} {ar gone : Nat} {xs : List Rw} (h : RefI B w b v ar gone xs) (hl : xs.length ≤ 1353244080301) (f t : Int) :
    Calls Try.prog 53 #[.pointer (some ⟨b, 0, none⟩), .int .i64 f, .int .i64 t] w fun e w' => ∃ u, e = .returned u ∧ OwnL 25 w.heap.size 106 RNb w' u (nbL xs f t) ∧ Fut w w' := by
  have H := Lib.hid h
  obtain ⟨A, cap, rfl, hcl, hcm⟩ := h.list.rep.form
  have c2 : w.cell? ⟨b, 2, none⟩ = some (.slice A xs.length cap) := cell_at h.blk 2 _ rfl
  clear h
  go_enter Try.func53, Try.ntmps53
  go_wp2_with fail
  go_loopw [7, 8] (fun u i wr => ∃ k : Nat, k ≤ xs.length ∧ i = .int .i64 k ∧ Hid (OwnL 25 w.heap.size 106 RNb wr u (nbK xs f t k)) ∧ Hid (Fut w wr)) (fun _ i _ => xs.length - (intOf i).toNat)
  case atStart => exact ⟨0, Nat.zero_le _, rfl, Lib.hid (by simp [nbK, OwnL.nil]), Lib.hid (Fut.refl _)⟩
  case round =>
    obtain ⟨k, hk, rfl, hO, hG⟩ := hrel
    have HR := Lib.hid (H.out.fut hG.out)
    have c2' := hG.out.cell c2
    obtain ⟨wq, hwq⟩ : ∃ x, x = wr := ⟨_, rfl⟩
    subst hwq
    go_wp2_with fail
    refine (rlen_any HR.out).mono ?_
    rintro e w1 ⟨rfl, hw1⟩
    have hw1' := hw1.symm
    subst hw1'
    by_cases hlt : k < xs.length
    · have hltI : (k : Int) < xs.length := by omega
      have e1 : (0 : Int) ≤ k ∧ (k : Int) < xs.length := by omega
      obtain ⟨gb, off, rfl, hrk⟩ := rows_at HR.out.list.rep hlt
      have hyk : xs.getD k zeroRow = xs[k] := by simp [List.getD, hlt]
      by_cases h1 : f ≤ k
      · by_cases h2 : (k : Int) < t
        · have hst := nbK_in hlt h1 h2
          have hsl := nbK_len xs f t k
          rw [hyk] at hst
          generalize xs[k] = y at hrk hst
          have hy := hrk.1
          have hOa := hO.out.fut RNb.stays (Fut.alloc wq (.cells (Nb.cells ⟨(k : Int), y⟩).toArray 106))
          have hRo := numbOne wq (t := ⟨(k : Int), y⟩) hy
          have hLa : (nbK xs f t k).length + [(⟨(k : Int), y⟩ : Nb)].length ≤ 1353244080301 := by simp only [List.length_cons, List.length_nil]; omega
          have hBa : w.heap.size ≤ (wq.alloc (.cells (Nb.cells ⟨(k : Int), y⟩).toArray 106)).heap.size := by have := hG.out.size; simp; omega
          go_wp2_with (first | (refine wpList_load_R rowTy (wanted_none rfl _) _ rfl rfl hrk ?_) | (refine wpList_of_run (wanted_none rfl _) (exec_numb (t := ⟨(k : Int), y⟩) _ _ rfl rfl rfl hy) ?_) | (refine wpList_of_run (wanted_none rfl _) (exec_one_N (t := ⟨(k : Int), y⟩) _ rfl rfl hy) ?_) | (refine wpList_append_N (wanted_none rfl _) _ _ rfl rfl rfl hOa hRo hLa hBa ?_; intro v6 w6 hO6 hG6))
          go_roundw
          case rel => exact ⟨k + 1, by omega, by go_num, by rw [hst]; exact Lib.hid hO6, Lib.hid ((hG.out.trans (Fut.alloc _ _)).grown hG6 fun j hj => (hOa.block j hj).1)⟩
          case measure => simp [intOf] <;> omega
        · have hst := nbK_out (f := f) (t := t) hlt (fun h => h2 h.2)
          have h2' : t ≤ (k : Int) := by omega
          go_wp2
          go_roundw
          case rel => exact ⟨k + 1, by omega, by go_num, by rw [hst]; exact hO, hG⟩
          case measure => simp [intOf] <;> omega
      · have hst := nbK_out (f := f) (t := t) hlt (fun h => h1 h.1)
        have h1' : (k : Int) < f := by omega
        go_wp2
        go_roundw
        case rel => exact ⟨k + 1, by omega, by go_num, by rw [hst]; exact hO, hG⟩
        case measure => simp [intOf] <;> omega
    · obtain rfl : k = xs.length := by omega
      go_wp2
      go_ret
      exact ⟨_, rfl, hO.out, hG.out⟩
set_option maxHeartbeats 400000 in
set_option maxRecDepth 100000 in
theorem rrange_nil (f t : Int) (w : World) :
    Calls Try.prog 53 #[.pointer none, .int .i64 f, .int .i64 t] w fun e w' => e = .returned (.slice none 0 0) ∧ Fut w w' := by
  go_enter Try.func53, Try.ntmps53
  go_wp2_with fail
  go_loopw [7, 8] (fun u i wr => i = .int .i64 0 ∧ u = .slice none 0 0 ∧ wr = w) (fun _ i _ => 1)
  case atStart => exact ⟨rfl, rfl, rfl⟩
  case round =>
    obtain ⟨rfl, rfl, rfl⟩ := hrel
    obtain ⟨wq, hwq⟩ : ∃ x, x = wr := ⟨_, rfl⟩
    subst hwq
    go_wp2_with fail
    refine (rlen_nil _).mono ?_
    rintro e w1 ⟨rfl, hw1⟩
    have hw1' := hw1.symm
    subst hw1'
    go_wp2
    go_ret
    exact ⟨rfl, Fut.refl _⟩
set_option maxHeartbeats 400000 in
set_option maxRecDepth 100000 in
theorem rselect_nil (m : Int) (x : Rw) (w : World) :
    Calls Try.prog 48 #[.pointer none, .int .u32 m, Rw.val x] w fun e w' => e = .returned (.slice none 0 0) ∧ Fut w w' := by
  unfold Rw.val
  go_enter Try.func48, Try.ntmps48
  go_wp2_with fail
  have F1 := Fut.alloc w (.cells (Rw.cells x).toArray 32)
  obtain ⟨W1, hW⟩ : ∃ W1, w.alloc (.cells (Rw.cells x).toArray 32) = W1 := ⟨_, rfl⟩
  rw [hW] at F1 ⊢
  clear hW
  have HF := Lib.hid F1
  go_loopw [7, 8] (fun u i wr => i = .int .i64 0 ∧ u = .slice none 0 0 ∧ wr = W1) (fun _ i _ => 1)
  case atStart => exact ⟨rfl, rfl, rfl⟩
  case round =>
    obtain ⟨rfl, rfl, rfl⟩ := hrel
    obtain ⟨wq, hwq⟩ : ∃ x, x = wr := ⟨_, rfl⟩
    subst hwq
    go_wp2_with fail
    refine (rlen_nil _).mono ?_
    rintro e w1 ⟨rfl, hw1⟩
    have hw1' := hw1.symm
    subst hw1'
    go_wp2
    go_ret
    exact ⟨rfl, HF.out⟩
end Go.Proofs.Ytcekphjcmippoaa
/- A result that lies in a cell: a bool. -/
namespace Go.Proofs.Ytcekphjcmippoaa
open Go.RowKit
set_option linter.unusedSimpArgs false
set_option linter.unusedVariables false

theorem results_cellB {fn : Func} {p : Tmp} {tmps : Array Value} {w : World} {g : Nat} {s : Bool} (h : fn.results = #[.cell p 4]) (hp : tmps.getD p undef = .pointer (some ⟨g, 0, none⟩)) (hc : w.cell? ⟨g, 0, none⟩ = some (.bool s)) :
    (results fn tmps).run Try.prog w = .ok (.bool s) w := by
  have hp' : tmps[p]?.getD undef = .pointer (some ⟨g, 0, none⟩) := by simpa using hp
  simp [results, h, hp', asAddr]
  simp [go_sem, hc]
end Go.Proofs.Ytcekphjcmippoaa
/- Lists in order, each once: plain laws, generic in the comparison. No program. -/
namespace Go.Proofs.Ytcekphjcmippoaa
open Go.RowKit
set_option linter.unusedSimpArgs false
set_option linter.unusedVariables false

/-- A comparison that is an order. -/
structure TotC {α : Type} (c : α → α → Int) : Prop where
  eq0 : ∀ x y, c x y = 0 ↔ x = y
  neg : ∀ x y, c y x = - c x y
  trans : ∀ x y z, c x y < 0 → c y z < 0 → c x z < 0
section
variable {α : Type} {c : α → α → Int}
def Up (c : α → α → Int) (l : List α) : Prop := l.Pairwise fun x y => c x y < 0
/-- These in order, each once. -/
def UpOf (c : α → α → Int) (l xs : List α) : Prop := Up c xs ∧ ∀ x, x ∈ xs ↔ x ∈ l
theorem TotC.irr (h : TotC c) (x : α) : ¬ c x x < 0 := by have := (h.eq0 x x).2 rfl; omega
theorem Up.uniq (h : TotC c) : ∀ {l m : List α}, Up c l → Up c m → (∀ x, x ∈ l ↔ x ∈ m) → l = m
  | [], [], _, _, _ => rfl
  | [], y :: m, _, _, e => by have := (e y).2 (by simp); simp at this
  | x :: l, [], _, _, e => by have := (e x).1 (by simp); simp at this
  | x :: l, y :: m, hl, hm, e => by
    have hl' := List.pairwise_cons.1 hl
    have hm' := List.pairwise_cons.1 hm
    have hxy : x = y := by
      have h1 := (e x).1 (by simp)
      have h2 := (e y).2 (by simp)
      rcases List.mem_cons.1 h1 with h1 | h1
      · exact h1
      · rcases List.mem_cons.1 h2 with h2 | h2
        · exact h2.symm
        · have a := hm'.1 x h1
          have b := hl'.1 y h2
          have := h.neg x y; omega
    subst hxy
    rw [Up.uniq h hl'.2 hm'.2 fun z => ?_]
    have hz := e z
    constructor
    · intro hz1
      rcases List.mem_cons.1 (hz.1 (List.mem_cons_of_mem _ hz1)) with e1 | e1
      · subst e1; exact absurd (hl'.1 z hz1) (h.irr z)
      · exact e1
    · intro hz1
      rcases List.mem_cons.1 (hz.2 (List.mem_cons_of_mem _ hz1)) with e1 | e1
      · subst e1; exact absurd (hm'.1 z hz1) (h.irr z)
      · exact e1
theorem UpOf.uniq (h : TotC c) {l m xs ys : List α} (hx : UpOf c l xs) (hy : UpOf c m ys) (hm : ∀ x, x ∈ l ↔ x ∈ m) : xs = ys :=
  Up.uniq h hx.1 hy.1 fun x => (hx.2 x).trans ((hm x).trans (hy.2 x).symm)

/-- Laid in at its place, if it is not there. -/
def insU (c : α → α → Int) (x : α) : List α → List α
  | [] => [x]
  | y :: r => if c x y < 0 then x :: y :: r else if c x y = 0 then y :: r else y :: insU c x r
def sortU (c : α → α → Int) (l : List α) : List α := l.foldr (insU c) []
theorem insU_mem (h : TotC c) (x z : α) : ∀ l : List α, z ∈ insU c x l ↔ z = x ∨ z ∈ l
  | [] => by simp [insU]
  | y :: r => by
    unfold insU
    split
    · simp
    · split
      · rename_i h1 h2
        have := (h.eq0 x y).1 h2
        subst this
        simp
      · rw [List.mem_cons, insU_mem h x z r, List.mem_cons]
        constructor
        · rintro (h | h | h) <;> simp [h]
        · rintro (h | h | h) <;> simp [h]
theorem insU_up (h : TotC c) (x : α) : ∀ l : List α, Up c l → Up c (insU c x l)
  | [], _ => by simp [insU, Up]
  | y :: r, hl => by
    have hl' := List.pairwise_cons.1 hl
    unfold insU
    split
    · rename_i h1
      refine List.pairwise_cons.2 ⟨fun z hz => ?_, hl⟩
      rcases List.mem_cons.1 hz with rfl | hz
      · exact h1
      · exact h.trans _ _ _ h1 (hl'.1 z hz)
    · split
      · exact hl
      · rename_i h1 h2
        refine List.pairwise_cons.2 ⟨fun z hz => ?_, insU_up h x r hl'.2⟩
        rcases (insU_mem h x z r).1 hz with rfl | hz
        · have := h.neg y z; omega
        · exact hl'.1 z hz
theorem sortU_spec (h : TotC c) : ∀ l : List α, UpOf c l (sortU c l)
  | [] => ⟨by simp [sortU, Up], by simp [sortU]⟩
  | x :: l => by
    obtain ⟨h1, h2⟩ := sortU_spec h l
    refine ⟨insU_up h x _ h1, fun z => ?_⟩
    show z ∈ insU c x (sortU c l) ↔ _
    rw [insU_mem h, h2, List.mem_cons]
theorem UpOf.eq (h : TotC c) {l xs : List α} (hx : UpOf c l xs) : xs = sortU c l := hx.uniq h (sortU_spec h l) fun _ => Iff.rfl
theorem sortU_congr (h : TotC c) {l m : List α} (hm : ∀ x, x ∈ l ↔ x ∈ m) : sortU c l = sortU c m := (sortU_spec h l).uniq h (sortU_spec h m) hm

/-- One more behind. -/
theorem Up.snoc {xs : List α} {x : α} (h : Up c xs) (hx : ∀ y ∈ xs, c y x < 0) : Up c (xs ++ [x]) :=
  List.pairwise_append.2 ⟨h, by simp, fun a ha b hb => by simp at hb; subst hb; exact hx a ha⟩
/-- Rising, equals behind one another. -/
def Sorted (c : α → α → Int) (l : List α) : Prop := l.Pairwise fun x y => ¬ c y x < 0
/-- What is kept of a rising list: what is not like the one ahead. -/
theorem UpOf.keep (h : TotC c) {t xs : List α} {k : Nat} (hs : Sorted c t) (hk : k < t.length) (hx : UpOf c (t.take k) xs) (hn : k = 0 ∨ ∃ hk0 : k - 1 < t.length, c t[k - 1] t[k] ≠ 0) : UpOf c (t.take (k + 1)) (xs ++ [t[k]]) := by
  refine ⟨hx.1.snoc fun y hy => ?_, fun z => ?_⟩
  · have hy' := (hx.2 y).1 hy
    rcases hn with rfl | ⟨hk0, hn⟩
    · simp at hy'
    · obtain ⟨i, hi⟩ := List.getElem?_of_mem hy'
      have hik : i < k := by
        have := (List.getElem?_eq_some_iff.1 hi).1
        rw [List.length_take] at this; omega
      rw [List.getElem?_take, if_pos hik, List.getElem?_eq_getElem (by omega)] at hi
      have hi := Option.some.inj hi
      have hp := List.pairwise_iff_getElem.1 hs
      have h1 : c t[k - 1] t[k] < 0 := by
        have := hp (k - 1) k hk0 hk (by omega)
        have := h.neg t[k - 1] t[k]; omega
      by_cases hik' : i = k - 1
      · subst hik'; rw [← hi]; exact h1
      · have h2 := hp i (k - 1) (by omega) hk0 (by omega)
        rw [hi] at h2
        by_cases e : c y t[k - 1] = 0
        · rw [(h.eq0 _ _).1 e]; exact h1
        · exact h.trans _ _ _ (by have := h.neg y t[k - 1]; omega) h1
  · rw [List.take_add_one, List.getElem?_eq_getElem hk]
    simp only [Option.toList, List.mem_append, hx.2 z]
theorem UpOf.drop (h : TotC c) {t xs : List α} {k : Nat} (hk : k < t.length) (hx : UpOf c (t.take k) xs) (h0 : 0 < k) (hn : c (t[k - 1]'(by omega)) t[k] = 0) : UpOf c (t.take (k + 1)) xs := by
  refine ⟨hx.1, fun z => ?_⟩
  have e := (h.eq0 _ _).1 hn
  rw [List.take_add_one, List.getElem?_eq_getElem hk, hx.2 z]
  simp only [Option.toList, List.mem_append, List.mem_singleton]
  constructor
  · exact .inl
  · rintro (h | rfl)
    · exact h
    · rw [← e]
      refine List.mem_of_getElem? (i := k - 1) ?_
      rw [List.getElem?_take, if_pos (by omega), List.getElem?_eq_getElem (by omega)]

/-- Two rising lists, joined from the front: what is out, and what is left of both. -/
structure Join (c : α → α → Int) (a b out ra rb : List α) : Prop where
  up : Up c out
  ua : Up c ra
  ub : Up c rb
  la : ∀ x ∈ out, ∀ y ∈ ra, c x y < 0
  lb : ∀ x ∈ out, ∀ y ∈ rb, c x y < 0
  mem : ∀ x, (x ∈ out ∨ x ∈ ra ∨ x ∈ rb) ↔ (x ∈ a ∨ x ∈ b)
theorem Join.start {a b : List α} (ha : Up c a) (hb : Up c b) : Join c a b [] a b :=
  ⟨by simp [Up], ha, hb, by simp, by simp, by simp⟩
theorem Join.left (h : TotC c) {a b out ra rb : List α} {x : α} (hj : Join c a b out (x :: ra) rb) (hx : ∀ y, rb.head? = some y → c x y < 0) : Join c a b (out ++ [x]) ra rb := by
  have ua := List.pairwise_cons.1 hj.ua
  have hxb : ∀ y ∈ rb, c x y < 0 := fun y hy => by
    cases rb with
    | nil => simp at hy
    | cons z r =>
      have hz := hx z rfl
      rcases List.mem_cons.1 hy with rfl | hy
      · exact hz
      · exact h.trans _ _ _ hz ((List.pairwise_cons.1 hj.ub).1 y hy)
  refine ⟨hj.up.snoc fun y hy => hj.la y hy x (by simp), ua.2, hj.ub, fun y hy z hz => ?_, fun y hy z hz => ?_, fun z => ?_⟩
  · rcases List.mem_append.1 hy with hy | hy
    · exact hj.la y hy z (List.mem_cons_of_mem _ hz)
    · simp at hy; subst hy; exact ua.1 z hz
  · rcases List.mem_append.1 hy with hy | hy
    · exact hj.lb y hy z hz
    · simp at hy; subst hy; exact hxb z hz
  · rw [← hj.mem z]; simp only [List.mem_append, List.mem_cons, List.not_mem_nil, or_false]
    constructor
    · rintro ((h | h) | h | h) <;> simp [h]
    · rintro (h | (h | h) | h) <;> simp [h]
theorem Join.swap {a b out ra rb : List α} (hj : Join c a b out ra rb) : Join c b a out rb ra :=
  ⟨hj.up, hj.ub, hj.ua, hj.lb, hj.la, fun x => by
    have := hj.mem x
    constructor
    · intro hx; exact (this.1 (by rcases hx with h | h | h <;> simp [h])).symm
    · intro hx; rcases this.2 hx.symm with h | h | h <;> simp [h]⟩
theorem Join.right (h : TotC c) {a b out ra rb : List α} {x : α} (hj : Join c a b out ra (x :: rb)) (hx : ∀ y, ra.head? = some y → c x y < 0) : Join c a b (out ++ [x]) ra rb :=
  (Join.left h hj.swap hx).swap
theorem Join.both (h : TotC c) {a b out ra rb : List α} {x y : α} (hj : Join c a b out (x :: ra) (y :: rb)) (hxy : c x y = 0) : Join c a b (out ++ [x]) ra rb := by
  have e := (h.eq0 _ _).1 hxy
  subst e
  have ua := List.pairwise_cons.1 hj.ua
  have ub := List.pairwise_cons.1 hj.ub
  refine ⟨hj.up.snoc fun y hy => hj.la y hy x (by simp), ua.2, ub.2, fun y hy z hz => ?_, fun y hy z hz => ?_, fun z => ?_⟩
  · rcases List.mem_append.1 hy with hy | hy
    · exact hj.la y hy z (List.mem_cons_of_mem _ hz)
    · simp at hy; subst hy; exact ua.1 z hz
  · rcases List.mem_append.1 hy with hy | hy
    · exact hj.lb y hy z (List.mem_cons_of_mem _ hz)
    · simp at hy; subst hy; exact ub.1 z hz
  · rw [← hj.mem z]; simp only [List.mem_append, List.mem_cons, List.not_mem_nil, or_false]
    constructor
    · rintro ((h | h) | h | h) <;> simp [h]
    · rintro (h | (h | h) | h | h) <;> simp [h]
theorem Join.done {a b out : List α} (hj : Join c a b out [] []) : UpOf c (a ++ b) out :=
  ⟨hj.up, fun x => by have := hj.mem x; simpa using this⟩
/-- .. of two halves, each in order. -/
theorem UpOf.join (h : TotC c) {l m a b out : List α} (ha : UpOf c l a) (hb : UpOf c m b) (hj : Join c a b out [] []) : UpOf c (l ++ m) out :=
  ⟨hj.done.1, fun x => by rw [hj.done.2 x, List.mem_append, List.mem_append, ha.2, hb.2]⟩

theorem TotC.swo (h : TotC c) : Go.Sort.SWO (fun x y => decide (c x y < 0)) where
  irrefl x := by simpa using h.irr x
  trans x y z h1 h2 := by
    simp only [decide_eq_true_eq] at *
    exact h.trans _ _ _ h1 h2
  ntrans x y z h1 h2 := by
    simp only [decide_eq_false_iff_not] at *
    intro h3
    by_cases e : c x y = 0
    · rw [(h.eq0 _ _).1 e] at h3; exact h2 h3
    · by_cases e' : c y z = 0
      · rw [← (h.eq0 _ _).1 e'] at h3; exact h1 h3
      · have h4 := h.trans z y x (by have := h.neg y z; omega) (by have := h.neg x y; omega)
        have := h.neg x z; omega
end
end Go.Proofs.Ytcekphjcmippoaa
/- The world behind slices.SortFunc: a row of the call's own has been written over; lists and rows. Generic; no program. -/
namespace Go.Proofs.Ytcekphjcmippoaa
open Go.RowKit Go.Sort
set_option linter.unusedSimpArgs false
set_option linter.unusedVariables false

section
variable {α : Type} [Inhabited α]
theorem below_sort (enc : α → Value) (w : World) (blk off m : Nat) (d : Array α) (os : Array Obj) (B : Nat) (hB : B ≤ blk) (hw : B ≤ w.heap.size) : Below B w (sortWorld enc w blk off m d os) := by
  refine ⟨rfl, rfl, rfl, ?_, fun j hj => ?_⟩
  · simp [sortWorld, putRow, mapBlock, Sort.ahead, grow]
  · have hne : blk ≠ j := by omega
    unfold sortWorld
    rw [heap_grow_old _ _ (by simp [putRow, mapBlock, Sort.ahead]; omega)]
    simp [putRow, mapBlock, Sort.ahead, Array.getElem?_modify, hne]
theorem fut_sort {w0 w : World} (h : Fut w0 w) (enc : α → Value) (blk off m : Nat) (d : Array α) (os : Array Obj) (hb : w0.heap.size ≤ blk) : Fut w0 (sortWorld enc w blk off m d os) :=
  Below.trans h (below_sort enc w blk off m d os _ hb h.size)
theorem fut_sortK {w0 w : World} (h : Fut w0 w) (enc : α → List Value) (k blk off m : Nat) (d : Array α) (os : Array Obj) (hb : w0.heap.size ≤ blk) : Fut w0 (sortWorldK enc k w blk off m d os) :=
  fut_sort h id blk off m (flatK enc k d) os hb
theorem perm_of_in {d d' : Array α} (h : PermIn 0 d.size d d') : d'.toList.Perm d.toList := by
  obtain ⟨h1, _, h3⟩ := h
  rw [Array.extract_size] at h3
  rw [← h1, Array.extract_size] at h3
  exact h3
theorem sorted_of_in {β : Type} {c : β → β → Int} {f : α → β} {n : Nat} {d' : Array α} (h : SortedIn (ltOf fun x y => c (f x) (f y)) 0 n d') (hn : d'.size = n) : Sorted c (d'.toList.map f) := by
  unfold Sorted
  rw [List.pairwise_iff_getElem]
  intro i j hi hj hij
  simp only [List.length_map, Array.length_toList] at hi hj
  have h1 := h i j (Nat.zero_le _) hij (by omega)
  unfold ltOf at h1
  rw [decide_eq_false_iff_not] at h1
  rw [getElem!_pos d' j hj, getElem!_pos d' i hi] at h1
  simpa using h1
end

/-- Lists of a type with what each stands for. -/
theorem zip_sub {β γ : Type} {p : β × γ → Prop} : ∀ (vs : List β) (xs : List γ), vs.length = xs.length → (∀ (i : Nat) (v : β) (x : γ), vs[i]? = some v → xs[i]? = some x → p (v, x)) →
    ∃ d : List {q : β × γ // p q}, d.map (fun q => q.1.1) = vs ∧ d.map (fun q => q.1.2) = xs
  | [], [], _, _ => ⟨[], rfl, rfl⟩
  | [], _ :: _, h, _ => by simp at h
  | _ :: _, [], h, _ => by simp at h
  | v :: vs, x :: xs, h, hp => by
    obtain ⟨d, h1, h2⟩ := zip_sub vs xs (by simpa using h) fun i u y hi hy => hp (i + 1) u y (by simpa using hi) (by simpa using hy)
    exact ⟨⟨(v, x), hp 0 v x rfl rfl⟩ :: d, by simp [h1], by simp [h2]⟩
end Go.Proofs.Ytcekphjcmippoaa
/- slices.SortFunc of a list of rows: what the row holds behind it. Generic in the program. -/
namespace Go.Proofs.Ytcekphjcmippoaa
open Go.RowKit Go.Sort Go.Shelf Go.WideMaps
set_option linter.unusedSimpArgs false
set_option linter.unusedVariables false

theorem ownR_row {B : Nat} {e : TypeId} {w : World} {v : Value} {xs : List Rw} (h : OwnL 24 B e RR w v xs) (hne : xs ≠ []) :
    ∃ g cap, ∃ css : List (List Value), v = .slice (some ⟨g, 0, none⟩) xs.length cap ∧ xs.length ≤ cap ∧ cap ≤ maxLen ∧ B ≤ g ∧ g < w.heap.size ∧ css.length = xs.length ∧ (∀ (i : Nat) (cs : List Value) (x : Rw), css[i]? = some cs → xs[i]? = some x → cs.length = 24 ∧ RR w cs x) ∧
      (∀ j u, css.flatten[j]? = some u → w.cell? ⟨g, j, none⟩ = some u ∧ w.frozen? ⟨g, j, none⟩ = false) := by
  obtain ⟨css, h1, h2, h3, h4⟩ := h
  rcases h4 with ⟨_, h5⟩ | ⟨g, cap, cur, rfl, a2, a3, a4, a5, a6, a7⟩
  · exact absurd (List.length_eq_zero_iff.1 h5) hne
  · refine ⟨g, cap, css, rfl, a4, a5, a2, lt_of_block a3, h1, h2, fun j u hj => ⟨?_, by simp [World.frozen?, a3]⟩⟩
    rw [← a7, List.getElem?_take] at hj
    split at hj
    · simp [World.cell?, a3]; simpa using hj
    · cases hj
theorem totR : TotC cmpR := ⟨ordR.zero, ordR.swap, fun x y z h1 h2 => ordR.lt h1 (by omega)⟩
theorem pull_swoR {α : Type} (f : α → Rw) : SWO (ltOf fun x y : α => cmpR (f x) (f y)) where
  irrefl x := totR.swo.irrefl (f x)
  trans x y z := totR.swo.trans (f x) (f y) (f z)
  ntrans x y z := totR.swo.ntrans (f x) (f y) (f z)
abbrev RwOk : Type := {x : Rw // Rw.ok x}
def encR (x : RwOk) : List Value := Rw.cells x.1
theorem encR_len (x : RwOk) : (encR x).length = 24 := Rw.cells_len x.2
theorem encR_one (x : RwOk) : ∀ v ∈ encR x, v.oneCell' = true := fun v hv => by
  unfold encR Rw.cells at hv
  rw [List.mem_map] at hv
  obtain ⟨a, _, rfl⟩ := hv
  rfl
instance : Inhabited RwOk := ⟨⟨zeroRow, zeroRow_ok⟩⟩

set_option maxHeartbeats 1000000 in
theorem sort_rows {P : Program} {ρ : Ren} (L : SlLaysF0.n6 P ρ) (aE : ∀ w, (isAgg (ρ.t 24)).run P w = .ok true w) (zE : ∀ w, (Go.sizeOf (ρ.t 24)).run P w = .ok 24 w) {e : TypeId} (g : Nat) (eg : ∀ args w, (callFunc g args).run P w = .ok (.enter g args) w)
    (hc : ∀ (x y : Rw) (W : World), Rw.ok x → Rw.ok y → Calls P g #[Rw.val x, Rw.val y] W fun z W' => z = .returned (.int .i64 (cmpR x y)) ∧ Gr.Fut W W')
    (w w1 : World) (hw : Fut w w1) (t : Value) (ts : List Rw) (h : OwnL 24 w.heap.size e RR w1 t ts) (hne : ts ≠ []) (hlen : ts.length < 4611686018427387904) :
    Calls P (ρ.f 6) #[t, .func (.func g) #[] #[]] w1 fun x w2 => x = .returned (.tuple #[]) ∧ ∃ ts' : List Rw, ts'.Perm ts ∧ Sorted cmpR ts' ∧ SlRep 24 maxLen RR w2 t ts' ∧ Fut w w2 := by
  have hok := rows_ok h.rep
  obtain ⟨blk, cap, css, rfl, hcl, hcm, hB, hlt, hcs, hel, hcells⟩ := ownR_row h hne
  obtain ⟨d, hd⟩ : ∃ d : List RwOk, d.map (fun q => q.1) = ts := ⟨ts.pmap (fun x h => ⟨x, h⟩) hok, by simp [List.map_pmap]⟩
  have hdl : d.length = ts.length := by rw [← hd, List.length_map]
  have hcd : ∀ i (hi : i < d.length), css[i]? = some (encR d[i]) := fun i hi => by
    obtain ⟨_, h2⟩ := hel i _ _ (List.getElem?_eq_getElem (by omega)) (List.getElem?_eq_getElem (by omega))
    rw [List.getElem?_eq_getElem (by omega), h2.1]
    have e2 : (d.map fun q => q.1)[i]? = ts[i]? := by rw [hd]
    rw [List.getElem?_map, List.getElem?_eq_getElem hi, List.getElem?_eq_getElem (by omega)] at e2
    simp only [Option.map_some, Option.some.injEq] at e2
    unfold encR
    rw [e2]
  have hsz : d.toArray.size = ts.length := by simpa using hdl
  have hs2 : ∀ (i : Nat) (cs : List Value), css[i]? = some cs → cs.length = 24 := fun i cs hi => by
    have hil := (List.getElem?_eq_some_iff.1 hi).1
    exact (hel i cs _ hi (List.getElem?_eq_getElem (by omega))).1
  have hH : HoldsK encR 24 w1 blk 0 d.toArray := fun j hj => by
    rw [size_flatK] at hj
    rw [get_flatK encR 24 d.toArray j hj]
    have hj' : j < d.length * 24 := by simpa using hj
    have hq := hcd (j / 24) (by omega)
    have hdj : d.toArray[j / 24]! = d[j / 24]'(by omega) := by rw [getElem!_pos d.toArray (j / 24) (by simp; omega)]; simp
    rw [hdj]
    have hr : (encR (d[j / 24]'(by omega)))[j % 24]? = some ((encR (d[j / 24]'(by omega)))[j % 24]!) := by
      have h2 : j % 24 < (encR (d[j / 24]'(by omega))).length := by rw [encR_len]; omega
      rw [List.getElem?_eq_getElem h2, getElem!_pos (encR (d[j / 24]'(by omega))) (j % 24) h2]
    have hf := flatten_at hs2 (j / 24) (j % 24) _ _ hq hr
    rw [show j / 24 * 24 + j % 24 = j by omega] at hf
    have := hcells j _ hf
    rw [Nat.zero_add]
    exact this
  have hbw : w.heap.size ≤ w1.heap.size := hw.size
  have hS := AnyQ.slices_SortFunc L 24 aE zE encR encR_len encR_one (fun x y => cmpR x.1 y.1) (pull_swoR fun q : RwOk => q.1) g #[] blk 0 cap d.toArray w1 eg
    (fun m os dk hdk x y => by
      have := hc x.1 y.1 (sortWorldK encR 24 w1 blk 0 m dk os) x.2 y.2
      rw [Array.append_empty]
      exact this) hH hlt (by rw [hsz]; exact hlen)
  rw [hsz] at hS
  refine hS.mono ?_
  rintro x w2 ⟨rfl, d', n, os, hp, hs, rfl⟩
  have hperm := perm_of_in (hsz ▸ hp)
  have hd'l : d'.size = ts.length := by have := hperm.length_eq; simpa [hdl] using this
  refine ⟨rfl, d'.toList.map fun q => q.1, ?_, ?_, ?_, fut_sortK hw _ _ _ _ _ _ _ hB⟩
  · have := hperm.map fun q => q.1
    simpa [hd] using this
  · exact sorted_of_in (f := fun q : RwOk => q.1) hs hd'l
  · have hh := holdsK_sortWorldK_c encR 24 w1 blk 0 d.toArray d' n os hH hlt (by rw [hd'l, hsz])
    have hml : (d'.toList.map fun q => q.1).length = ts.length := by simp [hd'l]
    refine ⟨some ⟨blk, 0, none⟩, cap, by rw [hml], by rw [hml]; exact hcl, hcm, fun i x hx => ?_⟩
    have hil : i < d'.size := by have := (List.getElem?_eq_some_iff.1 hx).1; simpa using this
    have he : x = d'[i]!.1 := by
      rw [getElem!_pos d' i hil]
      simp [List.getElem?_map, hil] at hx
      exact hx.symm
    refine ⟨blk, 0, encR d'[i]!, rfl, encR_len _, fun j u hj => ?_, by rw [he]; rfl, by rw [he]; exact d'[i]!.2⟩
    have hjl : j < 24 := by rw [← encR_len d'[i]!]; exact (List.getElem?_eq_some_iff.1 hj).1
    have h1 := (hh (i * 24 + j) (by rw [size_flatK]; omega)).1
    rw [get_flatK encR 24 d' (i * 24 + j) (by omega), show (i * 24 + j) / 24 = i by omega, show (i * 24 + j) % 24 = j by omega] at h1
    rw [h1, ← hj]
    have h2 : j < (encR d'[i]!).length := by rw [encR_len]; exact hjl
    rw [List.getElem?_eq_getElem h2, getElem!_pos (encR d'[i]!) j h2]
    rfl
end Go.Proofs.Ytcekphjcmippoaa
/- slices.SortFunc's conditions at this dump, out of the kit's shelf (lay-plain.mjs), in plain words. -/
namespace Go.Proofs
open Go.Shelf
def Try.sortR_ren : Go.Shelf.Ren := ⟨fun | 6 => 59 | 15 => 70 | 14 => 69 | 28 => 79 | 29 => 80 | 20 => 71 | 21 => 72 | 22 => 73 | 23 => 74 | 24 => 75 | 25 => 76 | 26 => 77 | 27 => 78 | 46 => 81 | 47 => 82 | 48 => 83 | 49 => 84 | 50 => 85 | 57 => 86 | n => n, fun | 22 => 25 | 24 => 32 | 25 => 89 | 3 => 3 | 39 => 112 | 0 => 0 | 53 => 42 | 55 => 122 | 4 => 4 | 46 => 115 | 45 => 114 | 50 => 79 | 5 => 5 | 9 => 9 | 66 => 123 | 70 => 127 | 76 => 129 | 77 => 130 | n => n, fun | n => n⟩
theorem Try.sortR : Go.Proofs.SlLaysF0.n6 Try.prog Try.sortR_ren := {
  mixed := by kernel_rfl
  f6 := ⟨Try.f59.name, by decide, Try.func59.trans (congrArg some (by kernel_rfl))⟩
  f14 := ⟨Try.f69.name, by decide, Try.func69.trans (congrArg some (by kernel_rfl))⟩
  f15 := Try.func70.trans (congrArg some (by kernel_rfl))
  f20 := ⟨Try.f71.name, by decide, Try.func71.trans (congrArg some (by kernel_rfl))⟩
  f21 := ⟨Try.f72.name, by decide, Try.func72.trans (congrArg some (by kernel_rfl))⟩
  f22 := ⟨Try.f73.name, by decide, Try.func73.trans (congrArg some (by kernel_rfl))⟩
  f23 := ⟨Try.f74.name, by decide, Try.func74.trans (congrArg some (by kernel_rfl))⟩
  f24 := ⟨Try.f75.name, by decide, Try.func75.trans (congrArg some (by kernel_rfl))⟩
  f25 := ⟨Try.f76.name, by decide, Try.func76.trans (congrArg some (by kernel_rfl))⟩
  f26 := ⟨Try.f77.name, by decide, Try.func77.trans (congrArg some (by kernel_rfl))⟩
  f27 := ⟨Try.f78.name, by decide, Try.func78.trans (congrArg some (by kernel_rfl))⟩
  f28 := Try.func79.trans (congrArg some (by kernel_rfl))
  f29 := Try.func80.trans (congrArg some (by kernel_rfl))
  f46 := ⟨Try.f81.name, by decide, Try.func81.trans (congrArg some (by kernel_rfl))⟩
  f47 := Try.func82.trans (congrArg some (by kernel_rfl))
  f48 := Try.func83.trans (congrArg some (by kernel_rfl))
  f49 := ⟨Try.f84.name, by decide, Try.func84.trans (congrArg some (by kernel_rfl))⟩
  f50 := ⟨Try.f85.name, by decide, Try.func85.trans (congrArg some (by kernel_rfl))⟩
  f57 := ⟨Try.f86.name, by decide, Try.func86.trans (congrArg some (by kernel_rfl))⟩
  t0 := Try.underlying0
  a0 := Try.isAgg0
  z0 := Try.sizeOf0
  v0 := Try.zeroValue0
  t3 := Try.underlying3
  a3 := Try.isAgg3
  z3 := Try.sizeOf3
  v3 := Try.zeroValue3
  t4 := Try.underlying4
  a4 := Try.isAgg4
  z4 := Try.sizeOf4
  v4 := Try.zeroValue4
  t5 := Try.underlying5
  a5 := Try.isAgg5
  z5 := Try.sizeOf5
  v5 := Try.zeroValue5
  t9 := Try.underlying9
  a9 := Try.isAgg9
  z9 := Try.sizeOf9
  v9 := Try.zeroValue9
  t22 := Try.underlying25
  a22 := Try.isAgg25
  z22 := Try.sizeOf25
  v22 := Try.zeroValue25
  t25 := Try.underlying89
  a25 := Try.isAgg89
  z25 := Try.sizeOf89
  v25 := Try.zeroValue89
  t39 := Try.underlying112
  a39 := Try.isAgg112
  z39 := Try.sizeOf112
  v39 := Try.zeroValue112
  t45 := Try.underlying114
  a45 := Try.isAgg114
  z45 := Try.sizeOf114
  v45 := Try.zeroValue114
  t46 := Try.underlying115
  a46 := Try.isAgg115
  z46 := Try.sizeOf115
  v46 := Try.zeroValue115
  t50 := Try.underlying79
  a50 := Try.isAgg79
  z50 := Try.sizeOf79
  v50 := Try.zeroValue79
  t53 := Try.underlying42
  a53 := Try.isAgg42
  z53 := Try.sizeOf42
  v53 := Try.zeroValue42
  t55 := Try.underlying122
  a55 := Try.isAgg122
  z55 := Try.sizeOf122
  v55 := Try.zeroValue122
  t66 := Try.underlying123
  a66 := Try.isAgg123
  z66 := Try.sizeOf123
  v66 := Try.zeroValue123
  t70 := Try.underlying127
  a70 := Try.isAgg127
  z70 := Try.sizeOf127
  v70 := Try.zeroValue127
  t76 := Try.underlying129
  a76 := Try.isAgg129
  z76 := Try.sizeOf129
  v76 := Try.zeroValue129
  t77 := Try.underlying130
  a77 := Try.isAgg130
  z77 := Try.sizeOf130
  v77 := Try.zeroValue130 }
end Go.Proofs
/- A range over a function whose iterator reads memory that lay there before, between two rounds: the rounds must keep it (D). No program. -/
namespace Go.Proofs.Ytcekphjcmippoaa
open Go.RowKit
set_option linter.unusedSimpArgs false
set_option linter.unusedVariables false

/-- As IterAt, where the rounds keep D. -/
def IterIf (D : World → Prop) (P : Program) (gf : Nat) (lb : Array Value) (N : Nat) (args : Nat → Array Value) (w : World) : Prop :=
  ∀ (l : Nat) (J : Nat → Nat → World → Prop) (Jx : Nat → World → Prop), (∀ s k W, J s k W → D W) →
    (∀ w1, Fut w w1 → J w1.heap.size 0 w1) → (∀ s k W W', Fut W W' → J s k W → J s k W') →
    (∀ s k W, w.heap.size ≤ s → s ≤ W.heap.size → k < N → J s k W → YieldAt Fence.wide 2 P l (args k) W fun e W' =>
      (e = .returned (.bool true) ∧ J s (k + 1) W' ∧ Mid w.heap.size s W W') ∨ (e = .returned (.bool false) ∧ Jx s W')) →
    Calls P gf (#[.func (.yield l) #[] #[]] ++ lb) w fun e W' => (∃ v, e = .returned v) ∧ ((∃ s, J s N W') ∨ ∃ s, Jx s W')
theorem IterAt.toIf {P : Program} {gf : Nat} {lb : Array Value} {N : Nat} {args : Nat → Array Value} {w : World} (h : IterAt P gf lb N args w) (D : World → Prop) : IterIf D P gf lb N args w := fun l J Jx _ => h l J Jx
theorem wp_range_if {D : World → Prop} {P : Program} {g : Operand} {ps : Array Tmp} {assign body : Code} {Q : Exit → Act → World → Prop} {a : Act} {w : World} {gf : Nat} {lb : Array Value}
    (hg : a.eval g = .func (.func gf) #[] lb) (eg : ∀ args w, (callFunc gf args).run P w = .ok (.enter gf args) w) {N : Nat} {args : Nat → Array Value}
    (hit : ∀ w1, Fut w w1 → IterIf D P gf lb N args w1) (hps : ∀ k, k < N → (args k).size = ps.size)
    (I : Nat → Nat → World → Prop) (Ix : Code → Nat → World → Prop)
    (hD : ∀ s k W, I s k W → D W) (hIf : ∀ s k W W', Fut W W' → I s k W → I s k W') (hI : ∀ s k W l o, w.heap.size ≤ l → l < w.heap.size + 2 → w.heap.size + 2 ≤ s → I s k W → I s k (W.putObj l o)) (hIx : ∀ c s W l o, w.heap.size ≤ l → l < w.heap.size + 2 → w.heap.size + 2 ≤ s → Ix c s W → Ix c s (W.putObj l o))
    (h0 : ∀ w1, Fut w w1 → w.heap.size + 2 ≤ w1.heap.size → I w1.heap.size 0 w1)
    (hbody : ∀ l s k W, w.heap.size ≤ l → l < w.heap.size + 2 → w.heap.size + 2 ≤ s → s ≤ W.heap.size → k < N → I s k W → (∃ r, W.heap[l]? = some (.loop r)) →
      assign.wpIn (Fence.wide.inRound l) 2 P (Exit.then (fun a₁ W₁ => Mid w.heap.size s W W₁ ∧ ∀ o, body.wpIn (Fence.wide.inRound l) 2 P (roundOut w.heap.size s (I s (k + 1)) (fun c => Ix c s) (W₁.putObj l o)) a₁ (W₁.putObj l o)) (fun _ _ _ => False))
        { tmps := (ps.zip (args k)).foldl (fun t (p, v) => t.setIfInBounds p v) a.tmps, defers := [] } W)
    (hdone : ∀ s W, w.heap.size + 2 ≤ s → I s N W → W.heap[w.heap.size]? = some (.deferred (some [])) → Q .normal { a with defers := { target := .collected w.heap.size, args := #[] } :: a.defers } W)
    (hstop : ∀ s c W, w.heap.size + 2 ≤ s → Ix c s W → W.heap[w.heap.size]? = some (.deferred (some [])) → c.wp P Q { a with defers := { target := .collected w.heap.size, args := #[] } :: a.defers } W) :
    (Code.rangeFunc g ps assign body).wp P Q a w := by
  refine (wpIn_wide (n := 3)).1 (wpIn_rangeFunc ?_)
  intro fn hfn
  obtain ⟨rec, hrec⟩ : ∃ rec : LoopState → Option Code → Loop, rec = fun st pe => { state := st, pending := pe, fn, tmps := a.tmps, params := ps, assign, body, defers := w.heap.size } := ⟨_, rfl⟩
  obtain ⟨W1, hW1⟩ : ∃ W1, (w.alloc (.deferred (some []))).alloc (.loop (rec .ready none)) = W1 := ⟨_, rfl⟩
  have hL1 : W1.heap[w.heap.size + 1]? = some (.loop (rec .ready none)) := by
    rw [← hW1]; have := World.alloc_heap_new (w.alloc (.deferred (some []))) (.loop (rec .ready none)); rwa [World.size_alloc] at this
  have hK1 : W1.heap[w.heap.size]? = some (.deferred (some [])) := by
    rw [← hW1]; exact (Below.heap_alloc _ _ _ (by simp)).trans (World.alloc_heap_new w _)
  have hf1 : Fut w W1 := by rw [← hW1]; exact (Fut.alloc _ _).trans (Fut.alloc _ _)
  have hs1 : W1.heap.size = w.heap.size + 2 := by rw [← hW1]; simp
  refine ⟨w.heap.size + 1, [{ target := .collected w.heap.size, args := #[] }], W1, { target := .fn (.func gf) lb, args := #[.func (.yield (w.heap.size + 1)) #[] #[]] }, W1, gf,
    #[.func (.yield (w.heap.size + 1)) #[] #[]] ++ lb, W1, ?_, ?_, ?_, ?_, fun h => by simp [Fence.wide] at h, ?_⟩
  · rw [← hW1, hrec]; exact run_enterLoop_outer _ _ _ _ _
  · simp only [resolve, hg]
    simp [go_sem]
  · intro f' hf'; trivial
  · simp [invoke, go_sem, eg]
  · refine callsIn_wide.2 ?_
    refine (hit W1 hf1 (w.heap.size + 1)
      (fun s k W => I (max s (w.heap.size + 2)) k W ∧ W.heap[w.heap.size + 1]? = some (.loop (rec .ready none)) ∧ W.heap[w.heap.size]? = some (.deferred (some [])))
      (fun s W => ∃ c, Ix c (max s (w.heap.size + 2)) W ∧ W.heap[w.heap.size + 1]? = some (.loop (rec .done (some c))) ∧ W.heap[w.heap.size]? = some (.deferred (some []))) (fun s k W hj => hD _ _ _ hj.1) ?_ (fun s k W W' hf hj => ⟨hIf _ _ _ _ hf hj.1, hf.block hj.2.1, hf.block hj.2.2⟩) ?_).mono ?_
    · intro w1 hf
      have hsz := hf.size
      refine ⟨?_, hf.block hL1, hf.block hK1⟩
      rw [Nat.max_eq_left (by omega)]
      exact h0 w1 (hf1.trans hf) (by omega)
    · rintro s k W hs hsW hk ⟨hi, hl, hd⟩
      rw [hs1] at hs
      rw [Nat.max_eq_left hs] at hi
      have hlt : w.heap.size + 1 < W.heap.size := (Array.getElem?_eq_some_iff.1 hl).1
      have hy := run_yield (P := P) (args := args k) hl (by rw [hrec]; exact hps k hk)
      rw [hrec] at hy
      refine ⟨fn, _, assign, body, hy, roundIn_of_wpIn hfn ?_⟩
      clear hy
      refine wpIn_mono (hbody (w.heap.size + 1) s k W (by omega) (by omega) hs hsW hk hi ⟨_, hl⟩) ?_
      intro e a1 Wa hp
      cases e with
      | normal =>
        obtain ⟨hm, hp⟩ := hp
        have hla : Wa.heap[w.heap.size + 1]? = some (.loop (rec .ready none)) := (hm.2 _ (by omega) (by omega)).trans hl
        have hda : Wa.heap[w.heap.size]? = some (.deferred (some [])) := (hm.2 _ (by omega) (by omega)).trans hd
        have hlta : w.heap.size + 1 < Wa.heap.size := (Array.getElem?_eq_some_iff.1 hla).1
        refine ⟨_, run_beginRound hla (by rw [hrec]), ?_⟩
        have hl2 : (Wa.putObj (w.heap.size + 1) (.loop { rec .ready none with state := .busy })).heap[w.heap.size + 1]? = some (.loop { rec .ready none with state := .busy }) := World.putObj_heap_same hlta
        have hd2 : (Wa.putObj (w.heap.size + 1) (.loop { rec .ready none with state := .busy })).heap[w.heap.size]? = some (.deferred (some [])) := (World.putObj_heap_other (by omega)).trans hda
        refine wpIn_mono (hp _) ?_
        have fin : ∀ (jump : Option Code) (W3 : World), Mid w.heap.size s (Wa.putObj (w.heap.size + 1) (.loop { rec .ready none with state := .busy })) W3 →
            (Instr.endRound (w.heap.size + 1) jump).run P W3 = .ok (.bool jump.isNone) (W3.putObj (w.heap.size + 1) (.loop (rec (if jump.isNone then .ready else .done) jump))) ∧
            (W3.putObj (w.heap.size + 1) (.loop (rec (if jump.isNone then .ready else .done) jump))).heap[w.heap.size + 1]? = some (.loop (rec (if jump.isNone then .ready else .done) jump)) ∧
            (W3.putObj (w.heap.size + 1) (.loop (rec (if jump.isNone then .ready else .done) jump))).heap[w.heap.size]? = some (.deferred (some [])) := fun jump W3 hk3 => by
          have hl3 := (hk3.2 (w.heap.size + 1) (by omega) (by omega)).trans hl2
          have hd3 := (hk3.2 w.heap.size (by omega) (by omega)).trans hd2
          have := run_endRound (P := P) jump hl3
          rw [hrec] at this ⊢
          exact ⟨this, World.putObj_heap_same (Array.getElem?_eq_some_iff.1 hl3).1, (World.putObj_heap_other (by omega)).trans hd3⟩
        rintro e a3 W3 hp
        have hput : ∀ o o' : Obj, Mid w.heap.size s (Wa.putObj (w.heap.size + 1) o) W3 → Mid W1.heap.size s W (W3.putObj (w.heap.size + 1) o') := fun o o' hm3 =>
          ⟨by rw [World.putObj_size]; have h1 := hm3.1; rw [World.putObj_size] at h1; exact Nat.le_trans hm.1 h1, fun j h1 h2 => by
            rw [hs1] at h1
            rw [World.putObj_heap_other (by omega), hm3.2 j (by omega) h2, World.putObj_heap_other (by omega), hm.2 j (by omega) h2]⟩
        cases e with
        | normal =>
          obtain ⟨hm3, hi3⟩ := hp
          obtain ⟨hr, hl4, hd4⟩ := fin none W3 hm3
          exact ⟨_, _, hr, .inl ⟨rfl, ⟨by rw [Nat.max_eq_left hs]; exact hI s _ _ _ _ (by omega) (by omega) hs hi3, hl4, hd4⟩, hput _ _ hm3⟩⟩
        | ret =>
          obtain ⟨hm3, hi3⟩ := hp
          obtain ⟨hr, hl4, hd4⟩ := fin (some .ret) W3 hm3
          exact ⟨_, _, hr, .inr ⟨rfl, .ret, by rw [Nat.max_eq_left hs]; exact hIx _ s _ _ _ (by omega) (by omega) hs hi3, hl4, hd4⟩⟩
        | exit id =>
          obtain ⟨hm3, hi3⟩ := hp
          obtain ⟨hr, hl4, hd4⟩ := fin (some (.exit id)) W3 hm3
          exact ⟨_, _, hr, .inr ⟨rfl, .exit id, by rw [Nat.max_eq_left hs]; exact hIx _ s _ _ _ (by omega) (by omega) hs hi3, hl4, hd4⟩⟩
        | goto t =>
          obtain ⟨hm3, hi3⟩ := hp
          obtain ⟨hr, hl4, hd4⟩ := fin (some (.goto t)) W3 hm3
          exact ⟨_, _, hr, .inr ⟨rfl, .goto t, by rw [Nat.max_eq_left hs]; exact hIx _ s _ _ _ (by omega) (by omega) hs hi3, hl4, hd4⟩⟩
        | panic ch => exact hp.elim
        | outgrown => exact hp.elim
      | ret => exact hp.elim
      | exit id => exact hp.elim
      | goto t => exact hp.elim
      | panic ch => exact hp.elim
      | outgrown => exact hp.elim
    · rintro e W2 ⟨⟨v, rfl⟩, (⟨s, hi, hl, hd⟩ | ⟨s, c, hi, hl, hd⟩)⟩
      · exact ⟨none, _, by have := run_endLoop (P := P) hl (by rw [hrec]; simp); rw [hrec] at this; exact this, hdone _ _ (Nat.le_max_right _ _) (hI _ _ _ _ _ (by omega) (by omega) (Nat.le_max_right _ _) hi) ((World.putObj_heap_other (by omega)).trans hd)⟩
      · exact ⟨some c, _, by have := run_endLoop (P := P) hl (by rw [hrec]; simp); rw [hrec] at this; exact this, (wpIn_wide (n := 3)).2 (hstop _ c _ (Nat.le_max_right _ _) (hIx _ _ _ _ _ (by omega) (by omega) (Nat.le_max_right _ _) hi) ((World.putObj_heap_other (by omega)).trans hd))⟩
end Go.Proofs.Ytcekphjcmippoaa
/- slices.Values, slices.AppendSeq, slices.Collect of rows. -/
namespace Go.Proofs.Ytcekphjcmippoaa
open Go.RowKit Go.WideMaps Go.Shelf
set_option linter.unusedSimpArgs false
set_option linter.unusedVariables false
attribute [local go_sem] Oper.semAt_some

set_option maxHeartbeats 400000 in
set_option maxRecDepth 100000 in
theorem values_any (v : Value) (w : World) (hv : ∃ A n cap, v = .slice A n cap) :
    Calls Try.prog 38 #[v] w fun e w' => ∃ b, e = .returned (.func (.func 60) #[] #[.pointer (some ⟨b, 0, none⟩)]) ∧ w'.cell? ⟨b, 0, none⟩ = some v ∧ Fut w w' := by
  have f1 := Fut.alloc w (.cells #[v] 25)
  have c1 := cell_at (heap_alloc_new w (.cells #[v] 25)) 0 _ rfl
  obtain ⟨A, n, cap, rfl⟩ := hv
  go_enter Try.func38, Try.ntmps38
  go_wp2
  go_ret
  exact ⟨_, rfl, c1, f1⟩
set_option maxHeartbeats 1600000 in
set_option maxRecDepth 100000 in
theorem values_iter {w : World} {A : Option Addr} {cap M : Nat} {xs : List Rw} (hM : M ≤ 9223372036854775807) (b : Nat) (h : SlRep 24 M RR w (.slice A xs.length cap) xs) (c : w.cell? ⟨b, 0, none⟩ = some (.slice A xs.length cap)) :
    IterIf (fun W => SlRep 24 M RR W (.slice A xs.length cap) xs) Try.prog 60 #[.pointer (some ⟨b, 0, none⟩)] xs.length (fun k => #[Rw.val (xs.getD k zeroRow)]) w := by
  intro l J Jx hJD h0 hst hY
  have HJD := Lib.hid hJD
  have HST := Lib.hid hst
  have HY := Lib.hid hY
  have HJ0 := Lib.hid (h0 w (Fut.refl w))
  have hll := h.len
  obtain ⟨A1, cap1, hv1, hcl, hcm⟩ := h.form
  injection hv1 with hA1 _ hv1
  subst hA1
  subst hv1
  clear hJD h0 hst hY h
  refine (callsIn_wide (n := 3)).1 ?_
  refine callsIn_of_wp Try.func60 rfl trivial ?_ rfl
  simp only [Try.ntmps60, List.size_toArray, List.length_cons, List.length_nil, Nat.reduceAdd, Nat.reduceSub, Array.replicate_succ, Array.replicate_zero, List.push_toArray, List.append_toArray, List.nil_append, List.cons_append]
  gi_wp2
  gi_loopw [7] (fun i wr => ∃ k : Nat, k ≤ xs.length ∧ i = .int .i64 k ∧ Hid (J w.heap.size k wr) ∧ w.heap.size ≤ wr.heap.size) (fun i _ => xs.length - (intOf i).toNat)
  case atStart => exact ⟨0, Nat.zero_le _, rfl, HJ0, Nat.le_refl _⟩
  case round =>
    obtain ⟨k, hk, rfl, hJ, hsz⟩ := hrel
    by_cases hlt : k < xs.length
    · obtain ⟨gu, offu, rfl, hrk⟩ := rows_at (HJD.out _ _ _ hJ.out) hlt
      have hyk : xs.getD k zeroRow = xs[k] := by simp [List.getD, hlt]
      generalize xs[k] = y at hrk hyk
      have hy0 := hrk.1
      have hr6 := RowAt.new wr 32 hy0
      obtain ⟨fn, tmps, assign, body, hy, hRd⟩ := HY.out w.heap.size k (wr.alloc (.cells (Rw.cells y).toArray 32)) (Nat.le_refl _) (by simp; omega) hlt (HST.out _ _ _ _ (Fut.alloc _ _) hJ.out)
      rw [hyk] at hy
      have e1 : (0 : Int) ≤ k ∧ (k : Int) < xs.length := by omega
      gi_wp2_with (first | (refine wpListIn_load_R wide_fn rowTy (wanted_none rfl _) _ rfl rfl hrk ?_) | (refine wpListIn_load_R wide_fn rowTy (wanted_none rfl _) _ rfl rfl hr6 ?_) | (refine wpListIn_store_new wide_fn rowTy (wanted_none rfl _) _ _ rfl rfl rfl rfl hy0 ?_))
      refine hRd.mono ?_
      rintro e w4 (⟨rfl, hJ4, hm4⟩ | ⟨rfl, hJx4⟩)
      · have hJ4' := Lib.hid hJ4
        have hm41 := hm4.1
        have hs4 : (wr.alloc (.cells (Rw.cells y).toArray 32)).heap.size = wr.heap.size + 1 := by simp
        clear hJ4 hm4
        gi_wp2
        go_roundw
        case rel => exact ⟨k + 1, by omega, by go_num, hJ4', by omega⟩
        case measure => simp [intOf] <;> omega
      · gi_wp2
        refine bodyPost_ret (results_none rfl _ _ _) rfl ?_
        exact ⟨⟨_, rfl⟩, .inr ⟨_, hJx4⟩⟩
    · obtain rfl : k = xs.length := by omega
      gi_wp2
      go_end0
      exact ⟨⟨_, rfl⟩, .inl ⟨_, hJ.out⟩⟩
theorem wpListIn_append_R {F : Fence} {n : Nat} {P : Program} {ops : Array Oper} {rest : List Oper} {Q : Exit → Act → World → Prop} {o : Oper} {a : Act} {t e : TypeId} {B : Nat} {w : World} {v u : Value} {xs ys : List Rw} {M : Nat} (hF : ∀ f, F.fn f) (hgd : Region.wanted o (yielded ops a.tmps) = true) (s x : Operand)
    (ho : o.op = .call { callee := .builtin .append, args := #[s, x], argTypes := #[t, t] }) (ht : P.underlying t = some (.slice e))
    (hinfo : (P.info? e).map (fun i => (i.zero, i.size, i.bytes)) = some (some (Rw.val zeroRow), 24, 96))
    (hs : a.eval s = v) (hx : a.eval x = u) (hown : OwnL 24 B e RR w v xs) (hu : SlRep 24 M RR w u ys) (hlen : xs.length + ys.length ≤ 1407374883512) (hbase : B ≤ w.heap.size)
    (h : ∀ v' w', OwnL 24 B e RR w' v' (xs ++ ys) → w.grownBy w' v.ownBlock → (v'.ownBlock = v.ownBlock ∨ v'.ownBlock = some w.heap.size) → wpListIn F n P ops Q rest (a.put o.dst v') w') : wpListIn F n P ops Q (o :: rest) a w := by
  obtain ⟨v', w', hr, h2, h3, h4⟩ := exec_append_R s x ho ht hinfo hs hx hown hu hlen hbase
  exact wpListIn_of_run hF (fun c h => by rw [ho] at h; cases h) hgd hr (h v' w' h2 h3 h4)
set_option maxHeartbeats 1600000 in
set_option maxRecDepth 100000 in
theorem appendSeq_any {D : World → Prop} {w : World} {lb : Array Value} {xs : List Rw} (hl : xs.length ≤ 1407374883512) (hok : ∀ x ∈ xs, Rw.ok x)
    (hit : ∀ W, Fut w W → IterIf D Try.prog 60 lb xs.length (fun k => #[Rw.val (xs.getD k zeroRow)]) W) (hD : ∀ W, Fut w W → D W) :
    Calls Try.prog 68 #[.slice none 0 0, .func (.func 60) #[] lb] w fun e w' => ∃ v, e = .returned v ∧ OwnL 24 w.heap.size 32 RR w' v xs ∧ Fut w w' := by
  have HIt := Lib.hid hit
  have HD := Lib.hid hD
  have HOk := Lib.hid hok
  clear hit hD hok
  refine (callsIn_wide (n := 3)).1 ?_
  refine callsIn_of_wp_marks Try.func68 rfl trivial ?_ rfl
  refine wpIn_wide.2 ?_
  simp only [Try.ntmps68, List.size_toArray, List.length_cons, List.length_nil, Nat.reduceAdd, Nat.reduceSub, Array.replicate_succ, Array.replicate_zero, List.push_toArray, List.append_toArray, List.nil_append, List.cons_append]
  go_wp2_with fail
  have f1 := Fut.alloc w (.cells #[Value.slice none 0 0] 25)
  have hO := heap_alloc_new w (.cells #[Value.slice none 0 0] 25)
  obtain ⟨wl, hW⟩ : ∃ W, w.alloc (.cells #[Value.slice none 0 0] 25) = W := ⟨_, rfl⟩
  have hs1 : wl.heap.size = w.heap.size + 1 := by rw [← hW]; simp
  rw [hW] at f1 hO ⊢
  clear hW
  have FL := Lib.hid f1
  have HI0 := Lib.hid (show ∀ k (hk : k < xs.length), xs.getD k zeroRow = xs[k] from fun k hk => by simp [List.getD, hk])
  clear f1
  refine wp_range_if (D := D) (N := xs.length) (args := fun k => #[Rw.val (xs.getD k zeroRow)]) rfl (enters_of Try.func60 (by kernel_rfl) rfl) (fun W hf => HIt.out W (FL.out.trans hf)) (fun k hk => rfl)
    (fun s k W => ∃ ov, OwnL 24 w.heap.size 32 RR W ov (xs.take k) ∧ (∀ j, ov.ownBlock = some j → s ≤ j) ∧ W.heap[w.heap.size]? = some (.cells #[ov] 25 (0, 0)) ∧ Only (fun j => j = w.heap.size) wl W)
    (fun _ _ _ => False) ?hD ?hIf ?hI ?hIx ?h0 ?hbody ?hdone ?hstop
  case hD => rintro s k W ⟨ov, h1, h2, h3, h4⟩; exact HD.out W (((Only.fut FL.out).trans (h4.mono (S' := fun j => w.heap.size ≤ j) fun j _ hj => Nat.le_of_eq hj.symm)).toFut fun j hj => hj)
  case hIf => rintro s k W W' hf ⟨ov, h1, h2, h3, h4⟩; exact ⟨ov, h1.fut RR.stays hf, h2, hf.block h3, h4.trans (Only.fut hf)⟩
  case hI =>
    rintro s k W l o hl1 hl2 hs ⟨ov, h1, h2, h3, h4⟩
    have OP : Only (fun j => j = l) W (W.putObj l o) := Only.put _ _ rfl
    exact ⟨ov, h1.onlyR OP (fun j hj e => by have := h2 j hj; omega), h2, OP.keeps h3 (by show ¬ w.heap.size = l; omega), h4.then OP fun j hj hlt => by omega⟩
  case hIx => exact fun _ _ _ _ _ _ _ _ h => h
  case h0 =>
    intro w4 hf hs
    exact ⟨_, OwnL.nil, fun j hj => (by cases hj), hf.block hO, Only.fut hf⟩
  case hbody =>
    rintro l s k W hl1 hl2 hs hsW hk ⟨ov, h1, h2, h3, h4⟩ hrec
    simp only [HI0.out k hk]
    have hyo := HOk.out _ (List.getElem_mem hk)
    have htk : xs.take (k + 1) = xs.take k ++ [xs[k]] := List.take_succ_eq_append_getElem hk
    generalize xs[k] = y at hyo htk
    obtain ⟨rr, hrr⟩ := hrec
    gi_wp2_with (first | (refine wpListIn_store_new (round_fn l) rowTy (wanted_none rfl _) _ _ rfl rfl rfl rfl hyo ?_))
    refine ⟨Mid.of_fut (Fut.alloc _ _) hsW, fun o => ?_⟩
    have OP : Only (fun j => j = l) W ((W.alloc (.cells (Rw.cells y).toArray 32)).putObj l o) := (Only.fut (Fut.alloc _ _)).trans (Only.put _ _ rfl)
    have hr5 : RowAt ((W.alloc (.cells (Rw.cells y).toArray 32)).putObj l o) W.heap.size 0 y := (RowAt.new W 32 hyo).only (Only.put (S := fun j => j = l) l o rfl) (by omega)
    have hsP : W.heap.size < ((W.alloc (.cells (Rw.cells y).toArray 32)).putObj l o).heap.size := by rw [World.putObj_size]; simp
    obtain ⟨Wp, hWp⟩ : ∃ x, (W.alloc (.cells (Rw.cells y).toArray 32)).putObj l o = x := ⟨_, rfl⟩
    rw [hWp] at OP hr5 hsP ⊢
    clear hWp hrr
    replace h1 : OwnL 24 w.heap.size 32 RR Wp ov (xs.take k) := h1.onlyR OP (fun j hj e => by have := h2 j hj; omega)
    replace h3 := OP.keeps h3 (by show ¬ w.heap.size = l; omega)
    replace h4 := h4.then OP fun j hj hlt => by omega
    have c2 := cell_at h3 0 _ rfl
    have hOa := h1.fut RR.stays (Fut.alloc Wp (.cells (Rw.cells y).toArray 32))
    have hRo := rowOne Wp 32 hyo
    have hLa : (xs.take k).length + [y].length ≤ 1407374883512 := by simp; omega
    have hBa : w.heap.size ≤ (Wp.alloc (.cells (Rw.cells y).toArray 32)).heap.size := by simp; omega
    have p3a := (Fut.alloc Wp (.cells (Rw.cells y).toArray 32)).block h3
    have hne : ∀ j, ov.ownBlock = some j → j ≠ w.heap.size := fun j hj e => by have := h2 j hj; omega
    gi_wp2_with (first | (refine wpListIn_load_R (round_fn l) rowTy (wanted_none rfl _) _ rfl rfl hr5 ?_) | (refine wpListIn_of_run (round_fn l) (fun c h => by cases h) (wanted_none rfl _) (exec_one_R rowTy zeroR Try.underlying25 _ rfl rfl hyo) ?_) | (refine wpListIn_append_R (round_fn l) (wanted_none rfl _) _ _ rfl Try.underlying25 infoR rfl rfl hOa hRo hLa hBa ?_; intro v8 w8 hO8 hG8 hB8; obtain ⟨A8, cap8, hv8, hc8, _⟩ := hO8.rep.form; have O8 : Only (fun j => ov.ownBlock = some j) _ w8 := Only.grown hG8 (fun j hj => hj); have b8 := O8.keeps p3a (fun h => hne _ h rfl); have q8 := cell_at b8 0 _ rfl; have z8 := free_at b8 0; subst hv8))
    have hel : (xs.take k ++ [y]).length = min k xs.length + 1 := by simp
    rw [hel] at hB8 hO8
    have hs8 := O8.size
    have hOl : w.heap.size < Wp.heap.size := (Array.getElem?_eq_some_iff.1 h3).1
    have hB9 : ∀ j, (Value.slice A8 (min k xs.length + 1) cap8).ownBlock = some j → ov.ownBlock = some j ∨ Wp.heap.size ≤ j := fun j hj => by
      rcases hB8 with h | h
      · exact .inl ((show ov.ownBlock = _ from h.symm).trans hj)
      · have e := (show some _ = _ from h.symm).trans hj
        rw [World.size_alloc] at e
        have := Option.some.inj e
        exact .inr (by omega)
    have hne9 : ∀ j, (Value.slice A8 (min k xs.length + 1) cap8).ownBlock = some j → ¬ j = w.heap.size := fun j hj e => by
      rcases hB9 j hj with h | h
      · exact hne j h e
      · omega
    have OS : Only (fun j => j = w.heap.size) w8 (w8.setCell ⟨w.heap.size, 0, none⟩ (Value.slice A8 (min k xs.length + 1) cap8)) := Only.set _ _ rfl
    have OA := (Only.fut (Fut.alloc Wp (.cells (Rw.cells y).toArray 32))).trans O8
    have OT : Only (fun j => s ≤ j ∨ j = w.heap.size) Wp (w8.setCell ⟨w.heap.size, 0, none⟩ (Value.slice A8 (min k xs.length + 1) cap8)) := (OA.mono (S' := fun j => s ≤ j ∨ j = w.heap.size) fun j _ hj => .inl (h2 j hj)).trans (OS.mono (S' := fun j => s ≤ j ∨ j = w.heap.size) fun j _ hj => .inr hj)
    have hst := OT.size
    refine ⟨⟨hst, fun j hj1 hj2 => ?_⟩, _, hO8.onlyR OS hne9, fun j hj => ?_, ?_, h4.then OT fun j hj hlt => ?_⟩
    · exact OT.block j (by omega) (by omega)
    · rcases hB9 j hj with h | h
      · exact h2 j h
      · omega
    · exact set_blk b8
    · rcases hj with h | h
      · omega
      · exact h
  case hdone =>
    rintro s W hs ⟨ov, h1, h2, h3, h4⟩ hK
    have c9 := cell_at h3 0 _ rfl
    rw [List.take_length] at h1
    go_wp2
    refine ⟨by simp, .inl ⟨_, _, rfl, run_takeDeferred hK, ?_⟩⟩
    have OP : Only (fun j => j = wl.heap.size) W (W.putObj wl.heap.size (.deferred none)) := Only.put _ _ rfl
    exact ⟨_, results_tmp rfl _ _ _, ov, rfl, h1.onlyR OP (fun j hj e => by have := h2 j hj; omega), (((Only.fut FL.out).trans (h4.mono (S' := fun j => w.heap.size ≤ j) fun j _ hj => by omega)).trans (OP.mono (S' := fun j => w.heap.size ≤ j) fun j _ hj => by omega)).toFut fun j hj => hj⟩
  case hstop => exact fun _ _ _ _ h _ => h.elim
end Go.Proofs.Ytcekphjcmippoaa
/- Sorted. -/
namespace Go.Proofs.Ytcekphjcmippoaa
open Go.RowKit Go.WideMaps Go.Shelf
set_option linter.unusedSimpArgs false
set_option linter.unusedVariables false

theorem sortR_any (w w1 : World) (hw : Fut w w1) (t : Value) (ts : List Rw) (h : OwnL 24 w.heap.size 32 RR w1 t ts) (hlen : ts.length < 4611686018427387904) :
    Calls Try.prog 59 #[t, .func (.func 39) #[] #[]] w1 fun x w2 => x = .returned (.tuple #[]) ∧ ∃ ts' : List Rw, ts'.Perm ts ∧ Sorted cmpR ts' ∧ SlRep 24 maxLen RR w2 t ts' ∧ Fut w w2 := by
  by_cases hne : ts = []
  · subst hne
    have hr := h.rep
    obtain ⟨A, cap, rfl, hcl, hcm⟩ := hr.form
    have hn := AnyF.slices_SortFunc_none (P := Try.prog) { Try.sortR with } A cap (.func (.func 39) #[] #[]) w1
    change Calls Try.prog 59 _ _ _ at hn
    refine hn.mono ?_
    rintro x w2 ⟨rfl, rfl⟩
    exact ⟨rfl, [], List.Perm.refl _, List.Pairwise.nil, hr, hw⟩
  · have eg : ∀ args w, (callFunc 39 args).run Try.prog w = .ok (.enter 39 args) w := enters_of Try.func39 (by kernel_rfl) rfl
    have hn := sort_rows Try.sortR Try.isAgg32 Try.sizeOf32 39 eg (fun x y W hx hy => Gr.sorted1_gr x y W hx hy) w w1 hw t ts h hne hlen
    change Calls Try.prog 59 _ _ _ at hn
    exact hn
set_option maxHeartbeats 400000 in
theorem collect_any {D : World → Prop} {w : World} {lb : Array Value} {xs : List Rw} (hl : xs.length ≤ 1407374883512) (hok : ∀ x ∈ xs, Rw.ok x)
    (hit : ∀ W, Fut w W → IterIf D Try.prog 60 lb xs.length (fun k => #[Rw.val (xs.getD k zeroRow)]) W) (hD : ∀ W, Fut w W → D W) :
    Calls Try.prog 58 #[.func (.func 60) #[] lb] w fun e w' => ∃ v, e = .returned v ∧ OwnL 24 w.heap.size 32 RR w' v xs ∧ Fut w w' := by
  have HA := Lib.hid (appendSeq_any hl hok hit hD)
  clear hl hok hit hD
  go_enter Try.func58, Try.ntmps58
  go_wp2_with fail
  refine HA.out.mono ?_
  rintro e w1 ⟨v, rfl, hO, f1⟩
  go_wp2
  go_ret
  exact ⟨v, rfl, hO, f1⟩
set_option maxHeartbeats 400000 in
theorem sortedFunc_any {D : World → Prop} {w : World} {lb : Array Value} {xs : List Rw} (hl : xs.length ≤ 1407374883512) (hok : ∀ x ∈ xs, Rw.ok x)
    (hit : ∀ W, Fut w W → IterIf D Try.prog 60 lb xs.length (fun k => #[Rw.val (xs.getD k zeroRow)]) W) (hD : ∀ W, Fut w W → D W) :
    Calls Try.prog 37 #[.func (.func 60) #[] lb, .func (.func 39) #[] #[]] w fun e w' => ∃ v ys, e = .returned v ∧ ys.Perm xs ∧ Sorted cmpR ys ∧ SlRep 24 maxLen RR w' v ys ∧ Fut w w' := by
  have HA := Lib.hid (collect_any hl hok hit hD)
  clear hok hit hD
  go_enter Try.func37, Try.ntmps37
  go_wp2_with fail
  refine HA.out.mono ?_
  rintro e w1 ⟨v, rfl, hO, f1⟩
  go_wp2_with fail
  refine (sortR_any w w1 f1 v xs hO (by omega)).mono ?_
  rintro e w2 ⟨rfl, ys, hp, hs, hr, f2⟩
  go_wp2
  go_ret
  exact ⟨v, ys, rfl, hp, hs, hr, f2⟩
set_option maxHeartbeats 800000 in
set_option maxRecDepth 100000 in
theorem sorted_any {B : Nat} {w : World} {b pb mb : Nat} {lv : Value} {ar gone : Nat} {xs : List Rw} (h : RelI B w b pb mb lv ar gone xs) (hl : xs.length ≤ 1407374883512) :
    Calls Try.prog 21 #[.pointer (some ⟨b, 0, none⟩)] w fun e w' => ∃ v ys, e = .returned v ∧ ys.Perm xs ∧ Sorted cmpR ys ∧ SlRep 24 maxLen RR w' v ys ∧ Fut w w' := by
  have H := Lib.hid h
  have c2 := cell_at h.blk 2 _ rfl
  have p0 := cell_at h.pl.blk 0 _ rfl
  have hR := Lib.hid h.pl.list.rep
  have hok := rows_ok h.pl.list.rep
  obtain ⟨A, cap, rfl, hcl, hcm⟩ := h.pl.form
  clear h
  go_enter Try.func21, Try.ntmps21
  go_wp2_with fail
  refine (there_any H.out).mono ?_
  rintro e w1 ⟨rfl, hw1⟩
  have hw1' := hw1.symm
  subst hw1'
  go_wp2_with fail
  refine (values_any _ _ ⟨_, _, _, rfl⟩).mono ?_
  rintro e w2 ⟨b2, rfl, hc2, f2⟩
  go_wp2_with fail
  refine (sortedFunc_any (D := fun W => SlRep 24 maxLen RR W (.slice A xs.length cap) xs) hl hok (fun W hW => values_iter (by unfold maxLen; omega) b2 (hR.out.fut RR.stays (f2.trans hW)) (hW.cell hc2)) (fun W hW => hR.out.fut RR.stays (f2.trans hW))).mono ?_
  rintro e w3 ⟨v, ys, rfl, hp, hs, hr, f3⟩
  go_wp2
  go_ret
  exact ⟨v, ys, rfl, hp, hs, hr, f2.trans f3⟩
end Go.Proofs.Ytcekphjcmippoaa
