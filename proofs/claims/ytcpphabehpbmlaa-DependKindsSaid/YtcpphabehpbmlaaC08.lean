/- Iter, KeysW, Cnt, Sz, TVars -/
import Derived.Shelf.SlIter.Nil
import Derived.Shelf.SortM.Plain
import Derived.Shelf.SortM.SortNone
import Derived.Ground.GgzProg
import Derived.Ground.SlgmProg
import Derived.Test.YtcpphabehpbmlaaC07
/- slices.Sorted(maps.Keys(m)) at this dump (printed by the kit's lay-iter.mjs). -/
namespace Go.Proofs
open Go.RowKit Go.Maps Go.Sort Go.Shelf

theorem Try.sorts51 (m : Nat) : AnyZ.SortsIn Try.prog Try.sorted51_ren Fence.wide m :=
  ⟨fun blk off cap ss W hH hblk hsz => callsIn_wide.2 (AnyM.slices_Sort_string Try.sort62 blk off cap ss W hH hblk hsz),
   fun p cap W => callsIn_wide.2 (AnyM.slices_Sort_string_none Try.sort62 p cap W)⟩

theorem Try.maps_Keys_53 (mb : Option Nat) (W : World) : CallsIn Fence.wide 5 Try.prog 53 #[.map mb] W fun e w' => e = .returned (.func (.func 64) #[] #[.pointer (some ⟨W.heap.size, 0, none⟩)]) ∧ w' = W.alloc (.cells #[.map mb] 99) :=
  AnyZ.keys_in Try.keys53 Fence.wide 5 trivial rfl mb W

set_option maxHeartbeats 1000000 in
theorem Try.slices_Sorted_keys_51_53 {H : Type} (b nn : Nat) (D0 : DataW H) (R : Value → Option (DataW H × List MemPlace)) (w : World) (hown : w.ownsMap Try.prog 9 R b nn D0) (hmax : Maps.size D0 ≤ maxLen) (hbytes : Maps.size D0 * 16 ≤ 140737488355328) :
    CallsIn Fence.wide 5 Try.prog 51 #[.func (.func 64) #[] #[.pointer (some ⟨w.heap.size, 0, none⟩)]] (w.alloc (.cells #[.map (some b)] 99)) fun e w' => ∃ (v : Value) (ss : List (List UInt8)), e = .returned v ∧ ss.Perm (strKeys D0) ∧
      w'.ownsRow (w.alloc (.cells #[.map (some b)] 99)).heap.size 9 1 v ss.length ((ss.mergeSort (fun x y => decide (x ≤ y))).map encStr) ∧ (v = .slice none 0 0 ↔ ss = []) ∧ Below (w.alloc (.cells #[.map (some b)] 99)).heap.size (w.alloc (.cells #[.map (some b)] 99)) w' := by
  have hbl := hown.lt
  have hseq : SeqGives Fence.wide 2 Try.prog 64 #[.pointer (some ⟨w.heap.size, 0, none⟩)] encStr (fun ss => ss.Perm (strKeys D0)) (Maps.size D0) (w.alloc (.cells #[.map (some b)] 99)) :=
    AnyZ.keys_gives (ρ := Try.keys53_ren) { Try.keys53 with } Fence.wide _ trivial rfl (by omega) w.heap.size b nn D0 _ (by simp) (by simp) (by
      obtain ⟨es, clock, hb, Ft, hs, hD⟩ := hown
      exact ⟨es, clock, (Below.heap_alloc _ _ b hbl).trans hb, Ft, hs, hD⟩)
  exact AnyZ.sorted_in Try.sorted51 Fence.wide 5 trivial trivial trivial trivial rfl (by omega) (Try.sorts51 _) (enters_of Try.func62 (by kernel_rfl) rfl) 64 #[.pointer (some ⟨w.heap.size, 0, none⟩)] trivial (enters_of Try.func64 (by kernel_rfl) rfl) _ _ hmax hbytes _ hseq

set_option maxHeartbeats 1000000 in
theorem Try.slices_Sorted_keys_nil_51_53 (w : World) :
    CallsIn Fence.wide 5 Try.prog 51 #[.func (.func 64) #[] #[.pointer (some ⟨w.heap.size, 0, none⟩)]] (w.alloc (.cells #[.map none] 99)) fun e w' => ∃ (v : Value) (ss : List (List UInt8)), e = .returned v ∧ ss = [] ∧
      w'.ownsRow (w.alloc (.cells #[.map none] 99)).heap.size 9 1 v ss.length ((ss.mergeSort (fun x y => decide (x ≤ y))).map encStr) ∧ (v = .slice none 0 0 ↔ ss = []) ∧ Below (w.alloc (.cells #[.map none] 99)).heap.size (w.alloc (.cells #[.map none] 99)) w' := by
  have hseq : SeqGives Fence.wide 2 Try.prog 64 #[.pointer (some ⟨w.heap.size, 0, none⟩)] encStr (fun ss : List (List UInt8) => ss = []) 0 (w.alloc (.cells #[.map none] 99)) :=
    AnyZ.keys_gives_nil (ρ := Try.keys53_ren) { Try.keys53 with } Fence.wide _ trivial rfl w.heap.size _ (by simp) (by simp)
  exact AnyZ.sorted_in Try.sorted51 Fence.wide 5 trivial trivial trivial trivial rfl (by omega) (Try.sorts51 _) (enters_of Try.func62 (by kernel_rfl) rfl) 64 #[.pointer (some ⟨w.heap.size, 0, none⟩)] trivial (enters_of Try.func64 (by kernel_rfl) rfl) _ 0 (Nat.zero_le _) (by omega) _ hseq

end Go.Proofs
/- slices.Sorted(maps.Keys(m)): the map's names in order. -/
namespace Go.Proofs.Ytcpphabehpbmlaa
open Go.RowKit Go.Maps Go.WideShapes
open Go.WideElems (Fit rd rg pl rd_val rg_of elemAt)
set_option linter.unusedSimpArgs false
set_option linter.unusedVariables false

/-- A list of names. -/
def RNm (_ : World) (cs : List Value) (x : ByteArray) : Prop := cs = [.string x]
theorem RNm.stays : Stays RNm := fun _ _ _ _ _ h => h
theorem keyOf_str {s : ByteArray} (hs : s.size ≤ maxLen) : keyOf Try.prog 9 (strV s) = some (.string s.data.toList) := by simp [keyOf, Try.underlying9, strV, mapKey, hs]
theorem names_of_row {B : Nat} {e : TypeId} {w : World} {v : Value} {xs : List (List UInt8)} {n : Nat} (hn : n = xs.length) (h : w.ownsRow B e 1 v n (xs.map encStr)) : OwnL 1 B e RNm w v (xs.map bytesOf') := by
  subst hn
  refine ⟨xs.map fun l => [encStr l], by simp, fun i cs x hi hx => ?_, ?_⟩
  · rw [List.getElem?_map] at hi hx
    cases hq : xs[i]? with
    | none => rw [hq] at hi; cases hi
    | some l =>
      rw [hq] at hi hx
      simp only [Option.map_some, Option.some.injEq] at hi hx
      subst hi; subst hx
      exact ⟨rfl, rfl⟩
  · have e1 : ∀ ys : List (List UInt8), (ys.map fun l => [encStr l]).flatten = ys.map encStr := fun ys => by
      induction ys with
      | nil => rfl
      | cons a r ih => rw [List.map_cons, List.flatten_cons, ih]; rfl
    rw [e1, List.length_map]; exact h
theorem nm_at {w : World} {A : Option Addr} {n cap M : Nat} {xs : List ByteArray} (h : SlRep 1 M RNm w (.slice A n cap) xs) {k : Nat} (hk : k < xs.length) :
    ∃ b off, A = some ⟨b, off, none⟩ ∧ w.cell? ⟨b, off + k, none⟩ = some (.string xs[k]) := by
  obtain ⟨A1, cap1, hv, _, _, h3⟩ := h
  obtain ⟨b, off, cs, hA, hl, hc, hr⟩ := h3 k _ (List.getElem?_eq_getElem hk)
  injection hv with hv _ _
  obtain rfl : cs = _ := hr
  refine ⟨b, off, hv.trans hA, ?_⟩
  have := hc 0 _ rfl
  rwa [Nat.mul_one, Nat.add_zero] at this
end Go.Proofs.Ytcpphabehpbmlaa
/- What a predicate's facts are counted in: the number, and of each column the map of its values. -/
namespace Go.Proofs.Ytcpphabehpbmlaa
open Go.RowKit Go.WideMaps Go.Maps
set_option linter.unusedSimpArgs false
set_option linter.unusedVariables false

def unit0 : Value := .agg #[]
/-- A list of maps. -/
def RMp (_ : World) (cs : List Value) (b : Nat) : Prop := cs = [.map (some b)]
theorem RMp.stays : Stays RMp := fun _ _ _ _ _ h => h
theorem RMp.same : ∀ (w w' : World) cs x, RMp w cs x → RMp w' cs x := fun _ _ _ _ h => h
theorem RMp.one : ∀ (w : World) cs x, RMp w cs x → ∀ u ∈ cs, u.oneCell' = true := fun w cs x h u hu => by
  obtain rfl : cs = _ := h
  simp only [List.mem_singleton] at hu
  subst hu; rfl
/-- A column: its map's block, its values in the order in which they came. -/
abbrev Col : Type := Nat × List V
def colE (l : List V) : List (V × Value) := l.map fun v => (v, unit0)
def efoot (blk : Nat) (lv : Value) (cols : List Col) (k : Nat) : Prop := k = blk ∨ lv.ownBlock = some k ∨ ∃ c ∈ cols, c.1 = k
section
variable {B : Nat} {w w' : World} {blk : Nat} {rows : Int} {lv : Value} {cols : List Col} {S : Nat → Prop}
theorem map_ne {α : Type} {kv : α → Value} {b k : Nat} {l : List (α × Value)} {arr : Array Value} {t : TypeId} {fr : Nat × Nat} (h : MapE kv w b l) (hk : w.heap[k]? = some (.cells arr t fr)) : b ≠ k := fun e => by
  obtain ⟨es, c, h1, _⟩ := h
  rw [e, hk] at h1
  cases h1
end
end Go.Proofs.Ytcpphabehpbmlaa
/- The map of what is counted, predicate by predicate. -/
namespace Go.Proofs.Ytcpphabehpbmlaa
open Go.RowKit Go.WideMaps Go.Maps
set_option linter.unusedSimpArgs false
set_option linter.unusedVariables false

structure En where
  p : ByteArray
  blk : Nat
  rows : Nat
  lv : Value
  cols : List Col
def En.foot (e : En) (k : Nat) : Prop := efoot e.blk e.lv e.cols k
def En.entry (e : En) : ByteArray × Value := (e.p, .pointer (some ⟨e.blk, 0, none⟩))
section
variable {B mb : Nat} {w w' : World} {es : List En} {S : Nat → Prop}
theorem set_at {α : Type} {l : List α} {j i : Nat} {x y : α} (h : (l.set j x)[i]? = some y) : (i = j ∧ y = x) ∨ (i ≠ j ∧ l[i]? = some y) := by
  rw [List.getElem?_set] at h
  split at h
  · rename_i hij
    split at h
    · injection h with h; exact .inl ⟨hij.symm, h.symm⟩
    · cases h
  · rename_i hij
    exact .inr ⟨fun e => hij e.symm, h⟩
end
end Go.Proofs.Ytcpphabehpbmlaa
/- term.vars: the callback. -/
namespace Go.Proofs.Ytcpphabehpbmlaa
open Go.RowKit Go.WideMaps Go.Maps
set_option linter.unusedSimpArgs false
set_option linter.unusedVariables false

abbrev tVm : TypeId := 81
abbrev tVl' : TypeId := 68
def numE : Nat → List ByteArray → List (ByteArray × Value)
  | _, [] => []
  | i, s :: r => (s, .int .i64 ((i + 1 : Nat) : Int)) :: numE (i + 1) r
theorem numE_keys : ∀ (i : Nat) (L : List ByteArray), (numE i L).map (·.1) = L
  | _, [] => rfl
  | i, s :: r => by rw [numE, List.map_cons, numE_keys]
theorem numE_snoc : ∀ (i : Nat) (L : List ByteArray) (s : ByteArray), numE i (L ++ [s]) = numE i L ++ [(s, .int .i64 ((i + L.length + 1 : Nat) : Int))]
  | i, [], s => by simp [numE]
  | i, x :: r, s => by
    rw [List.cons_append, numE, numE, numE_snoc, List.length_cons, List.cons_append]
    rw [show i + 1 + r.length + 1 = i + (r.length + 1) + 1 by omega]
theorem numE_in : ∀ (i : Nat) (L : List ByteArray) (s : ByteArray), s ∈ L → ∃ n : Nat, 0 < n ∧ getE (numE i L) s = some (.int .i64 (n : Int))
  | _, [], s, h => by cases h
  | i, x :: r, s, h => by
    unfold getE numE
    by_cases e : x = s
    · subst e
      exact ⟨i + 1, by omega, by simp⟩
    · obtain ⟨n, h1, h2⟩ := numE_in (i + 1) r s ((List.mem_cons.1 h).resolve_left fun h' => e h'.symm)
      refine ⟨n, h1, ?_⟩
      unfold getE at h2
      rw [List.find?_cons_of_neg (by simpa using e)]
      exact h2
/-- The list that vars builds, and its map. -/
structure VarSt (B : Nat) (w : World) (bl bm mb : Nat) (L : List ByteArray) (lv : Value) : Prop where
  lcell : w.heap[bl]? = some (.cells #[lv] tVl' (0, 0))
  list : OwnL 1 B 9 RNm w lv L
  mcell : w.heap[bm]? = some (.cells #[.map (some mb)] tVm (0, 0))
  map : MapE strV w mb (numE 0 L)
  sizes : ∀ s ∈ L, s.size ≤ 140737488351232
  low : B ≤ bl ∧ B ≤ bm ∧ B ≤ mb
instance memBA (v : ByteArray) : (L : List ByteArray) → Decidable (v ∈ L)
  | [] => isFalse (by simp)
  | a :: r => if h : v = a then isTrue (by rw [h]; exact List.mem_cons_self) else match memBA v r with
    | isTrue h2 => isTrue (List.mem_cons_of_mem _ h2)
    | isFalse h2 => isFalse fun h3 => (List.mem_cons.1 h3).elim h h2
def addVar (L : List ByteArray) (v : ByteArray) : List ByteArray := if v.toList = [] then L else if v.toList = [95] then L else if v ∈ L then L else L ++ [v]
theorem zeroInt (w : World) : (zeroValue 3).run Try.prog w = .ok (.int .i64 0) w := by kernel_rfl
theorem infoNm : (Try.prog.info? 9).map (fun i => (i.zero, i.size, i.bytes)) = some (some (.string ⟨#[]⟩), 1, 16) := by kernel_rfl
theorem infoNms : (Try.prog.info? 68).map (·.size) = some 1 := by kernel_rfl
theorem RNm.one : ∀ (w : World) cs x, RNm w cs x → ∀ u ∈ cs, u.oneCell' = true := fun w cs x h u hu => by
  obtain rfl : cs = _ := h
  simp only [List.mem_singleton] at hu
  subst hu; rfl
theorem RNm.keeps {e : TypeId} : Keeps e RNm := fun _ _ _ _ _ h _ _ => h
theorem nmOne (w : World) (s : ByteArray) (e : TypeId) : SlRep 1 1 RNm (w.alloc (.cells #[.string s] e)) (.slice (some ⟨w.heap.size, 0, none⟩) 1 1) [s] :=
  ⟨_, 1, rfl, Nat.le_refl _, Nat.le_refl _, fun i y hy => by
    have hi : i = 0 := by
      have := (List.getElem?_eq_some_iff.1 hy).1
      simp at this; omega
    subst hi
    simp at hy
    subst hy
    refine ⟨w.heap.size, 0, _, rfl, rfl, fun j c hj => ?_, rfl⟩
    rw [show 0 + (0 * 1 + j) = j by omega]
    have h0 := heap_alloc_new w (.cells #[.string s] e)
    simp only [World.cell?, h0]
    simpa using hj⟩
theorem wpList_mapNum {ops : Array Oper} {rest : List Oper} {o : Oper} {a : Act} {Q : Exit → Act → World → Prop} {w : World} {b : Nat} {l : List (ByteArray × Value)} {p : ByteArray} {v : Value} (hgd : Region.wanted o (yielded ops a.tmps) = true) (m y z : Operand)
    (ho : o.op = .mapUpdate tVm m y z) (hm : a.eval m = .map (some b)) (hy : a.eval y = .string p) (hz : a.eval z = v) (h : MapE strV w b l) (hok : ∀ q ∈ l, q.1.size ≤ maxLen) (hv : p.size ≤ maxLen) (hn : ∀ q ∈ l, q.1 ≠ p)
    (hk : ∀ w', MapE strV w' b (l ++ [(p, v)]) → w.grownBy w' (some b) → wpList Try.prog ops Q rest (a.put o.dst undef) w') : wpList Try.prog ops Q (o :: rest) a w := by
  obtain ⟨w', hr, h2, h3⟩ := h.push keyStr hok Try.underlying81 hv hn v
  refine wpList_of_skip hgd (w' := w') ?_ (hk w' h2 h3)
  have hy' : a.eval y = strV p := hy
  unfold execOp
  simp only [ho, hm, hy', hz, hr, Sem.run_bind, Sem.run_pure, Result.andThen_ok]
section
variable {B bl bm mb : Nat} {w w' : World} {L : List ByteArray} {lv : Value}
theorem VarSt.sep (h : VarSt B w bl bm mb L lv) : bl ≠ bm ∧ mb ≠ bl ∧ mb ≠ bm ∧ ∀ k, lv.ownBlock = some k → k ≠ bl ∧ k ≠ bm ∧ k ≠ mb := by
  refine ⟨fun e => ?_, map_ne h.map h.lcell, map_ne h.map h.mcell, fun k hk => ?_⟩
  · have h1 := h.lcell
    rw [e, h.mcell] at h1
    injection h1 with h1
    injection h1 with _ h2
    exact absurd h2 (by decide)
  · obtain ⟨arr, h1⟩ := h.list.typed k hk
    refine ⟨fun e => ?_, fun e => ?_, fun e => map_ne h.map h1 e.symm⟩
    · rw [e, h.lcell] at h1
      injection h1 with h1
      injection h1 with _ h2
      exact absurd h2 (by decide)
    · rw [e, h.mcell] at h1
      injection h1 with h1
      injection h1 with _ h2
      exact absurd h2 (by decide)
theorem VarSt.fut (h : VarSt B w bl bm mb L lv) (hf : Fut w w') : VarSt B w' bl bm mb L lv :=
  ⟨hf.block h.lcell, h.list.fut RNm.stays hf, hf.block h.mcell, h.map.fut hf, h.sizes, h.low⟩
/-- What a call of the callback turns. -/
def vfoot (bl mb : Nat) (lv : Value) (k : Nat) : Prop := k = bl ∨ k = mb ∨ lv.ownBlock = some k
theorem VarSt.grow {W : World} {v : ByteArray} {v' : Value} (h : VarSt B W bl bm mb L lv) (o : OwnL 1 B 9 RNm w' v' (L ++ [v])) (g : W.grownBy w' lv.ownBlock) (sn : SameOrNew W lv v') (hv : v.size ≤ 140737488351232) :
    w'.cell? ⟨bl, 0, none⟩ = some lv ∧ w'.frozen? ⟨bl, 0, none⟩ = false ∧ MapE strV (w'.setCell ⟨bl, 0, none⟩ v') mb (numE 0 L) ∧ (w'.setCell ⟨bl, 0, none⟩ v').cell? ⟨bm, 0, none⟩ = some (.map (some mb)) ∧ (w'.setCell ⟨bl, 0, none⟩ v').cell? ⟨bl, 0, none⟩ = some v' ∧
      Only (vfoot bl mb lv) W (w'.setCell ⟨bl, 0, none⟩ v') ∧ ∀ w2 w3, Fut (w'.setCell ⟨bl, 0, none⟩ v') w2 → MapE strV w3 mb (numE 0 (L ++ [v])) → w2.grownBy w3 (some mb) → VarSt B w3 bl bm mb (L ++ [v]) v' := by
  obtain ⟨s1, s2, s3, s4⟩ := h.sep
  have O1 : Only (fun k => lv.ownBlock = some k) W w' := Only.grown g fun k hk => hk
  have b1 := O1.keeps h.lcell (fun e => (s4 _ e).1 rfl)
  have b2 := O1.keeps h.mcell (fun e => (s4 _ e).2.1 rfl)
  have m1 : MapE strV w' mb (numE 0 L) := h.map.kept (O1.block mb h.map.lt fun e => (s4 _ e).2.2 rfl)
  have O2 : Only (fun k => k = bl) w' (w'.setCell ⟨bl, 0, none⟩ v') := Only.set _ _ rfl
  have b3 : (w'.setCell ⟨bl, 0, none⟩ v').heap[bl]? = some (.cells #[v'] tVl' (0, 0)) := by simp [World.setCell, Array.getElem?_modify, b1]
  have b4 := O2.keeps b2 (fun e => s1 e.symm)
  have m2 : MapE strV (w'.setCell ⟨bl, 0, none⟩ v') mb (numE 0 L) := m1.kept (O2.block mb m1.lt s2)
  have hob : ∀ k, v'.ownBlock = some k → k ≠ bl ∧ k ≠ mb := fun k hk => by
    rcases sn with e | e
    · rw [e] at hk; exact ⟨(s4 k hk).1, (s4 k hk).2.2⟩
    · have h1 := e k hk
      have h2 := (Array.getElem?_eq_some_iff.1 h.lcell).1
      have h3 := h.map.lt
      exact ⟨by omega, by omega⟩
  have o2 : OwnL 1 B 9 RNm (w'.setCell ⟨bl, 0, none⟩ v') v' (L ++ [v]) := o.only (fun _ _ h => h) O2 fun k hk => (hob k hk).1
  refine ⟨cell_at b1 0 _ rfl, free_at b1 0, m2, cell_at b4 0 _ rfl, cell_at b3 0 _ rfl, (O1.mono fun k _ hk => .inr (.inr hk)).trans (O2.mono fun k _ hk => .inl hk), fun w2 w3 f2 m3 g3 => ?_⟩
  have O3 : Only (fun k => k = mb) (w'.setCell ⟨bl, 0, none⟩ v') w3 := (Only.fut f2).trans (Only.grown g3 fun k hk => by injection hk with hk; exact hk.symm)
  exact ⟨O3.keeps b3 (fun e => s2 e.symm), o2.only (fun _ _ h => h) O3 fun k hk => (hob k hk).2, O3.keeps b4 (fun e => s3 e.symm), m3, fun s hs => by
    rcases List.mem_append.1 hs with hs | hs
    · exact h.sizes s hs
    · rw [List.mem_singleton] at hs; subst hs; exact hv, h.low⟩
end
set_option maxHeartbeats 2000000 in
set_option maxRecDepth 100000 in
theorem vars1_any {B bl bm mb pb po : Nat} {L : List ByteArray} {lv : Value} (v : ByteArray) (w : World) (h : VarSt B w bl bm mb L lv) (hp : w.cell? ⟨pb, po, none⟩ = some (.string v)) (hv : v.size ≤ 140737488351232) (hL : L.length ≤ 1000000000000) (hBw : B ≤ w.heap.size) (hpb : pb < B) :
    Calls Try.prog 47 #[.pointer (some ⟨pb, po, none⟩), .pointer (some ⟨bm, 0, none⟩), .pointer (some ⟨bl, 0, none⟩)] w fun e w' => (∃ u, e = .returned u) ∧ ∃ lv', VarSt B w' bl bm mb (addVar L v) lv' ∧ Only (fun k => vfoot bl mb lv k ∨ w.heap.size ≤ k) w w' ∧ (∀ k, lv'.ownBlock = some k → lv.ownBlock = some k ∨ w.heap.size ≤ k) := by
  have H := Lib.hid h
  have y1 := cell_at h.mcell 0 _ rfl
  have y2 := cell_at h.lcell 0 _ rfl
  have hok : ∀ q ∈ numE 0 L, q.1.size ≤ maxLen := fun q hq => by
    have : q.1 ∈ (numE 0 L).map (·.1) := List.mem_map.2 ⟨q, hq, rfl⟩
    rw [numE_keys] at this
    exact Nat.le_trans (h.sizes _ this) (by unfold maxLen; omega)
  have hvm : v.size ≤ maxLen := Nat.le_trans hv (by unfold maxLen; omega)
  have HL := Lib.hid (fun W (hW : Fut w W) => show (Instr.lookup tVm (.map (some mb)) (.string v) false).run Try.prog W = .ok ((getE (numE 0 L) v).getD (.int .i64 0)) W from ((h.map.fut hW).look keyStr hok Try.underlying81 zeroInt (x := v) hvm).1)
  clear h
  by_cases e1 : v.toList = []
  · have hA : addVar L v = L := if_pos e1
    rw [hA]
    go_enter Try.func47, Try.ntmps47
    go_wp2_with fail
    refine wp_graph 21 [.d, .d, .d, .d, .d, .d, .d, .d, .d, .d, .d, .d, .d, .d, .d, .d, .d, .d, .d, .d, .d] (by kernel_rfl) (by kernel_rfl) (by kernel_rfl) ?_
    simp only [List.take_succ_cons, List.take_zero, List.drop_succ_cons, List.drop_zero, Exs]
    iterate 21 apply Exists.intro
    apply Run.valG (wanted_none rfl _)
    · intro w1 h1 hk
      have q0 := h1.cell hp
      have hcw := fun b o => Below.cell (p := ⟨b, o, none⟩) h1
      go_simp; rfl
    simp only [Act.put, List.setIfInBounds_toArray, List.set_cons_succ, List.set_cons_zero, List.nil_append, List.cons_append]
    apply Run.valG (wanted_none rfl _)
    · intro w1 h1 hk
      have q0 := h1.cell hp
      have hcw := fun b o => Below.cell (p := ⟨b, o, none⟩) h1
      go_simp; rfl
    simp only [Act.put, List.setIfInBounds_toArray, List.set_cons_succ, List.set_cons_zero, List.nil_append, List.cons_append]
    apply Run.valG (wanted_none rfl _)
    · intro w1 h1 hk
      have q0 := h1.cell hp
      have hcw := fun b o => Below.cell (p := ⟨b, o, none⟩) h1
      go_simp; rfl
    simp only [Act.put, List.setIfInBounds_toArray, List.set_cons_succ, List.set_cons_zero, List.nil_append, List.cons_append]
    apply Run.valG (wanted_none rfl _)
    · intro w1 h1 hk
      have q0 := h1.cell hp
      have hcw := fun b o => Below.cell (p := ⟨b, o, none⟩) h1
      go_simp; rfl
    simp only [Act.put, List.setIfInBounds_toArray, List.set_cons_succ, List.set_cons_zero, List.nil_append, List.cons_append]
    apply Run.valG (wanted_none rfl _)
    · intro w1 h1 hk
      have q0 := h1.cell hp
      have hcw := fun b o => Below.cell (p := ⟨b, o, none⟩) h1
      go_simp; rfl
    simp only [Act.put, List.setIfInBounds_toArray, List.set_cons_succ, List.set_cons_zero, List.nil_append, List.cons_append]
    apply Run.valG (wanted_none rfl _)
    · intro w1 h1 hk
      have q0 := h1.cell hp
      have hcw := fun b o => Below.cell (p := ⟨b, o, none⟩) h1
      go_simp; rfl
    simp only [Act.put, List.setIfInBounds_toArray, List.set_cons_succ, List.set_cons_zero, List.nil_append, List.cons_append]
    apply Run.skip (by go_simp)
    simp only [Act.put, List.setIfInBounds_toArray, List.set_cons_succ, List.set_cons_zero, List.nil_append, List.cons_append]
    apply Run.skip (by go_simp)
    simp only [Act.put, List.setIfInBounds_toArray, List.set_cons_succ, List.set_cons_zero, List.nil_append, List.cons_append]
    apply Run.skip (by go_simp)
    simp only [Act.put, List.setIfInBounds_toArray, List.set_cons_succ, List.set_cons_zero, List.nil_append, List.cons_append]
    apply Run.skip (by go_simp)
    simp only [Act.put, List.setIfInBounds_toArray, List.set_cons_succ, List.set_cons_zero, List.nil_append, List.cons_append]
    apply Run.skip (by go_simp)
    simp only [Act.put, List.setIfInBounds_toArray, List.set_cons_succ, List.set_cons_zero, List.nil_append, List.cons_append]
    apply Run.valG (wanted_none rfl _)
    · intro w1 h1 hk
      have q0 := h1.cell hp
      have hcw := fun b o => Below.cell (p := ⟨b, o, none⟩) h1
      go_simp; rfl
    simp only [Act.put, List.setIfInBounds_toArray, List.set_cons_succ, List.set_cons_zero, List.nil_append, List.cons_append]
    apply Run.valG (wanted_none rfl _)
    · intro w1 h1 hk
      have q0 := h1.cell hp
      have hcw := fun b o => Below.cell (p := ⟨b, o, none⟩) h1
      go_simp; rfl
    simp only [Act.put, List.setIfInBounds_toArray, List.set_cons_succ, List.set_cons_zero, List.nil_append, List.cons_append]
    apply Run.skip (by go_simp)
    simp only [Act.put, List.setIfInBounds_toArray, List.set_cons_succ, List.set_cons_zero, List.nil_append, List.cons_append]
    apply Run.skip (by go_simp)
    simp only [Act.put, List.setIfInBounds_toArray, List.set_cons_succ, List.set_cons_zero, List.nil_append, List.cons_append]
    apply Run.skip (by go_simp)
    simp only [Act.put, List.setIfInBounds_toArray, List.set_cons_succ, List.set_cons_zero, List.nil_append, List.cons_append]
    apply Run.skip (by go_simp)
    simp only [Act.put, List.setIfInBounds_toArray, List.set_cons_succ, List.set_cons_zero, List.nil_append, List.cons_append]
    apply Run.skip (by go_simp)
    simp only [Act.put, List.setIfInBounds_toArray, List.set_cons_succ, List.set_cons_zero, List.nil_append, List.cons_append]
    apply Run.skip (by go_simp)
    simp only [Act.put, List.setIfInBounds_toArray, List.set_cons_succ, List.set_cons_zero, List.nil_append, List.cons_append]
    apply Run.skip (by go_simp)
    simp only [Act.put, List.setIfInBounds_toArray, List.set_cons_succ, List.set_cons_zero, List.nil_append, List.cons_append]
    apply Run.valG (wanted_none rfl _)
    · intro w1 h1 hk
      have q0 := h1.cell hp
      have hcw := fun b o => Below.cell (p := ⟨b, o, none⟩) h1
      go_simp; rfl
    simp only [Act.put, List.setIfInBounds_toArray, List.set_cons_succ, List.set_cons_zero, List.nil_append, List.cons_append]
    apply Run.done
    intro w2 h2 hk
    clear hk
    have F := (Fut.drew w).trans h2
    go_wp2
    (try simp only [Exit.inBlock, Exit.then]); refine bodyPost_ret (results_none rfl _ _ _) rfl ?_
    exact ⟨⟨_, rfl⟩, lv, H.out.fut F, Only.fut F, fun k hk => .inl hk⟩
  have e1b : (v.toList == []) = false := by rw [beq_eq_false_iff_ne]; exact e1
  by_cases e2 : v.toList = [95]
  · have hA : addVar L v = L := by unfold addVar; rw [if_neg e1, if_pos e2]
    rw [hA]
    go_enter Try.func47, Try.ntmps47
    go_wp2_with fail
    refine wp_graph 21 [.d, .d, .d, .d, .d, .d, .d, .d, .d, .d, .d, .d, .d, .d, .d, .d, .d, .d, .d, .d, .d] (by kernel_rfl) (by kernel_rfl) (by kernel_rfl) ?_
    simp only [List.take_succ_cons, List.take_zero, List.drop_succ_cons, List.drop_zero, Exs]
    iterate 21 apply Exists.intro
    apply Run.valG (wanted_none rfl _)
    · intro w1 h1 hk
      have q0 := h1.cell hp
      have hcw := fun b o => Below.cell (p := ⟨b, o, none⟩) h1
      go_simp; rfl
    simp only [Act.put, List.setIfInBounds_toArray, List.set_cons_succ, List.set_cons_zero, List.nil_append, List.cons_append]
    apply Run.valG (wanted_none rfl _)
    · intro w1 h1 hk
      have q0 := h1.cell hp
      have hcw := fun b o => Below.cell (p := ⟨b, o, none⟩) h1
      go_simp; rfl
    simp only [Act.put, List.setIfInBounds_toArray, List.set_cons_succ, List.set_cons_zero, List.nil_append, List.cons_append]
    apply Run.valG (wanted_none rfl _)
    · intro w1 h1 hk
      have q0 := h1.cell hp
      have hcw := fun b o => Below.cell (p := ⟨b, o, none⟩) h1
      go_simp; rfl
    simp only [Act.put, List.setIfInBounds_toArray, List.set_cons_succ, List.set_cons_zero, List.nil_append, List.cons_append]
    apply Run.valG (wanted_none rfl _)
    · intro w1 h1 hk
      have q0 := h1.cell hp
      have hcw := fun b o => Below.cell (p := ⟨b, o, none⟩) h1
      go_simp; rfl
    simp only [Act.put, List.setIfInBounds_toArray, List.set_cons_succ, List.set_cons_zero, List.nil_append, List.cons_append]
    apply Run.valG (wanted_none rfl _)
    · intro w1 h1 hk
      have q0 := h1.cell hp
      have hcw := fun b o => Below.cell (p := ⟨b, o, none⟩) h1
      go_simp; rfl
    simp only [Act.put, List.setIfInBounds_toArray, List.set_cons_succ, List.set_cons_zero, List.nil_append, List.cons_append]
    apply Run.valG (wanted_none rfl _)
    · intro w1 h1 hk
      have q0 := h1.cell hp
      have hcw := fun b o => Below.cell (p := ⟨b, o, none⟩) h1
      go_simp; rfl
    simp only [Act.put, List.setIfInBounds_toArray, List.set_cons_succ, List.set_cons_zero, List.nil_append, List.cons_append]
    apply Run.valG (by go_simp)
    · intro w1 h1 hk
      have q0 := h1.cell hp
      have hcw := fun b o => Below.cell (p := ⟨b, o, none⟩) h1
      go_simp; rfl
    simp only [Act.put, List.setIfInBounds_toArray, List.set_cons_succ, List.set_cons_zero, List.nil_append, List.cons_append]
    apply Run.valG (by go_simp)
    · intro w1 h1 hk
      have q0 := h1.cell hp
      have hcw := fun b o => Below.cell (p := ⟨b, o, none⟩) h1
      go_simp; rfl
    simp only [Act.put, List.setIfInBounds_toArray, List.set_cons_succ, List.set_cons_zero, List.nil_append, List.cons_append]
    apply Run.valG (by go_simp)
    · intro w1 h1 hk
      have q0 := h1.cell hp
      have hcw := fun b o => Below.cell (p := ⟨b, o, none⟩) h1
      go_simp; rfl
    simp only [Act.put, List.setIfInBounds_toArray, List.set_cons_succ, List.set_cons_zero, List.nil_append, List.cons_append]
    apply Run.valG (by go_simp)
    · intro w1 h1 hk
      have q0 := h1.cell hp
      have hcw := fun b o => Below.cell (p := ⟨b, o, none⟩) h1
      go_simp; rfl
    simp only [Act.put, List.setIfInBounds_toArray, List.set_cons_succ, List.set_cons_zero, List.nil_append, List.cons_append]
    apply Run.valG (by go_simp)
    · intro w1 h1 hk
      have q0 := h1.cell hp
      have hcw := fun b o => Below.cell (p := ⟨b, o, none⟩) h1
      go_simp; rfl
    simp only [Act.put, List.setIfInBounds_toArray, List.set_cons_succ, List.set_cons_zero, List.nil_append, List.cons_append]
    apply Run.valG (wanted_none rfl _)
    · intro w1 h1 hk
      have q0 := h1.cell hp
      have hcw := fun b o => Below.cell (p := ⟨b, o, none⟩) h1
      go_simp; rfl
    simp only [Act.put, List.setIfInBounds_toArray, List.set_cons_succ, List.set_cons_zero, List.nil_append, List.cons_append]
    apply Run.valG (wanted_none rfl _)
    · intro w1 h1 hk
      have q0 := h1.cell hp
      have hcw := fun b o => Below.cell (p := ⟨b, o, none⟩) h1
      go_simp; rfl
    simp only [Act.put, List.setIfInBounds_toArray, List.set_cons_succ, List.set_cons_zero, List.nil_append, List.cons_append]
    apply Run.skip (by go_simp)
    simp only [Act.put, List.setIfInBounds_toArray, List.set_cons_succ, List.set_cons_zero, List.nil_append, List.cons_append]
    apply Run.skip (by go_simp)
    simp only [Act.put, List.setIfInBounds_toArray, List.set_cons_succ, List.set_cons_zero, List.nil_append, List.cons_append]
    apply Run.skip (by go_simp)
    simp only [Act.put, List.setIfInBounds_toArray, List.set_cons_succ, List.set_cons_zero, List.nil_append, List.cons_append]
    apply Run.skip (by go_simp)
    simp only [Act.put, List.setIfInBounds_toArray, List.set_cons_succ, List.set_cons_zero, List.nil_append, List.cons_append]
    apply Run.skip (by go_simp)
    simp only [Act.put, List.setIfInBounds_toArray, List.set_cons_succ, List.set_cons_zero, List.nil_append, List.cons_append]
    apply Run.skip (by go_simp)
    simp only [Act.put, List.setIfInBounds_toArray, List.set_cons_succ, List.set_cons_zero, List.nil_append, List.cons_append]
    apply Run.skip (by go_simp)
    simp only [Act.put, List.setIfInBounds_toArray, List.set_cons_succ, List.set_cons_zero, List.nil_append, List.cons_append]
    apply Run.valG (wanted_none rfl _)
    · intro w1 h1 hk
      have q0 := h1.cell hp
      have hcw := fun b o => Below.cell (p := ⟨b, o, none⟩) h1
      go_simp; rfl
    simp only [Act.put, List.setIfInBounds_toArray, List.set_cons_succ, List.set_cons_zero, List.nil_append, List.cons_append]
    apply Run.done
    intro w2 h2 hk
    clear hk
    have F := (Fut.drew w).trans h2
    go_wp2
    (try simp only [Exit.inBlock, Exit.then]); refine bodyPost_ret (results_none rfl _ _ _) rfl ?_
    exact ⟨⟨_, rfl⟩, lv, H.out.fut F, Only.fut F, fun k hk => .inl hk⟩
  have e2b : (v.toList == [95]) = false := by rw [beq_eq_false_iff_ne]; exact e2
  by_cases e3 : v ∈ L
  · have hA : addVar L v = L := by unfold addVar; rw [if_neg e1, if_neg e2, if_pos e3]
    rw [hA]
    obtain ⟨n, hn, hg⟩ := numE_in 0 L v e3
    rw [hg, Option.getD_some] at HL
    have hn' : (n : Int) > 0 := by omega
    have hn'' : 0 < n := by omega
    clear hg
    go_enter Try.func47, Try.ntmps47
    go_wp2_with fail
    refine wp_graph 21 [.d, .d, .d, .d, .d, .d, .d, .d, .d, .d, .d, .d, .d, .d, .d, .d, .d, .d, .d, .d, .d] (by kernel_rfl) (by kernel_rfl) (by kernel_rfl) ?_
    simp only [List.take_succ_cons, List.take_zero, List.drop_succ_cons, List.drop_zero, Exs]
    iterate 21 apply Exists.intro
    apply Run.valG (wanted_none rfl _)
    · intro w1 h1 hk
      have q0 := h1.cell hp; have q1 := h1.cell y1; have q2 := HL.out _ ((Fut.drew _).trans h1)
      have hcw := fun b o => Below.cell (p := ⟨b, o, none⟩) h1
      go_simp; rfl
    simp only [Act.put, List.setIfInBounds_toArray, List.set_cons_succ, List.set_cons_zero, List.nil_append, List.cons_append]
    apply Run.valG (wanted_none rfl _)
    · intro w1 h1 hk
      have q0 := h1.cell hp; have q1 := h1.cell y1; have q2 := HL.out _ ((Fut.drew _).trans h1)
      have hcw := fun b o => Below.cell (p := ⟨b, o, none⟩) h1
      go_simp; rfl
    simp only [Act.put, List.setIfInBounds_toArray, List.set_cons_succ, List.set_cons_zero, List.nil_append, List.cons_append]
    apply Run.valG (wanted_none rfl _)
    · intro w1 h1 hk
      have q0 := h1.cell hp; have q1 := h1.cell y1; have q2 := HL.out _ ((Fut.drew _).trans h1)
      have hcw := fun b o => Below.cell (p := ⟨b, o, none⟩) h1
      go_simp; rfl
    simp only [Act.put, List.setIfInBounds_toArray, List.set_cons_succ, List.set_cons_zero, List.nil_append, List.cons_append]
    apply Run.valG (wanted_none rfl _)
    · intro w1 h1 hk
      have q0 := h1.cell hp; have q1 := h1.cell y1; have q2 := HL.out _ ((Fut.drew _).trans h1)
      have hcw := fun b o => Below.cell (p := ⟨b, o, none⟩) h1
      go_simp; rfl
    simp only [Act.put, List.setIfInBounds_toArray, List.set_cons_succ, List.set_cons_zero, List.nil_append, List.cons_append]
    apply Run.valG (wanted_none rfl _)
    · intro w1 h1 hk
      have q0 := h1.cell hp; have q1 := h1.cell y1; have q2 := HL.out _ ((Fut.drew _).trans h1)
      have hcw := fun b o => Below.cell (p := ⟨b, o, none⟩) h1
      go_simp; rfl
    simp only [Act.put, List.setIfInBounds_toArray, List.set_cons_succ, List.set_cons_zero, List.nil_append, List.cons_append]
    apply Run.valG (wanted_none rfl _)
    · intro w1 h1 hk
      have q0 := h1.cell hp; have q1 := h1.cell y1; have q2 := HL.out _ ((Fut.drew _).trans h1)
      have hcw := fun b o => Below.cell (p := ⟨b, o, none⟩) h1
      go_simp; rfl
    simp only [Act.put, List.setIfInBounds_toArray, List.set_cons_succ, List.set_cons_zero, List.nil_append, List.cons_append]
    apply Run.valG (by go_simp)
    · intro w1 h1 hk
      have q0 := h1.cell hp; have q1 := h1.cell y1; have q2 := HL.out _ ((Fut.drew _).trans h1)
      have hcw := fun b o => Below.cell (p := ⟨b, o, none⟩) h1
      go_simp; rfl
    simp only [Act.put, List.setIfInBounds_toArray, List.set_cons_succ, List.set_cons_zero, List.nil_append, List.cons_append]
    apply Run.valG (by go_simp)
    · intro w1 h1 hk
      have q0 := h1.cell hp; have q1 := h1.cell y1; have q2 := HL.out _ ((Fut.drew _).trans h1)
      have hcw := fun b o => Below.cell (p := ⟨b, o, none⟩) h1
      go_simp; rfl
    simp only [Act.put, List.setIfInBounds_toArray, List.set_cons_succ, List.set_cons_zero, List.nil_append, List.cons_append]
    apply Run.valG (by go_simp)
    · intro w1 h1 hk
      have q0 := h1.cell hp; have q1 := h1.cell y1; have q2 := HL.out _ ((Fut.drew _).trans h1)
      have hcw := fun b o => Below.cell (p := ⟨b, o, none⟩) h1
      go_simp; rfl
    simp only [Act.put, List.setIfInBounds_toArray, List.set_cons_succ, List.set_cons_zero, List.nil_append, List.cons_append]
    apply Run.valG (by go_simp)
    · intro w1 h1 hk
      have q0 := h1.cell hp; have q1 := h1.cell y1; have q2 := HL.out _ ((Fut.drew _).trans h1)
      have hcw := fun b o => Below.cell (p := ⟨b, o, none⟩) h1
      go_simp; rfl
    simp only [Act.put, List.setIfInBounds_toArray, List.set_cons_succ, List.set_cons_zero, List.nil_append, List.cons_append]
    apply Run.valG (by go_simp)
    · intro w1 h1 hk
      have q0 := h1.cell hp; have q1 := h1.cell y1; have q2 := HL.out _ ((Fut.drew _).trans h1)
      have hcw := fun b o => Below.cell (p := ⟨b, o, none⟩) h1
      go_simp; rfl
    simp only [Act.put, List.setIfInBounds_toArray, List.set_cons_succ, List.set_cons_zero, List.nil_append, List.cons_append]
    apply Run.valG (wanted_none rfl _)
    · intro w1 h1 hk
      have q0 := h1.cell hp; have q1 := h1.cell y1; have q2 := HL.out _ ((Fut.drew _).trans h1)
      have hcw := fun b o => Below.cell (p := ⟨b, o, none⟩) h1
      go_simp; rfl
    simp only [Act.put, List.setIfInBounds_toArray, List.set_cons_succ, List.set_cons_zero, List.nil_append, List.cons_append]
    apply Run.valG (wanted_none rfl _)
    · intro w1 h1 hk
      have q0 := h1.cell hp; have q1 := h1.cell y1; have q2 := HL.out _ ((Fut.drew _).trans h1)
      have hcw := fun b o => Below.cell (p := ⟨b, o, none⟩) h1
      go_simp; rfl
    simp only [Act.put, List.setIfInBounds_toArray, List.set_cons_succ, List.set_cons_zero, List.nil_append, List.cons_append]
    apply Run.valG (by go_simp)
    · intro w1 h1 hk
      have q0 := h1.cell hp; have q1 := h1.cell y1; have q2 := HL.out _ ((Fut.drew _).trans h1)
      have hcw := fun b o => Below.cell (p := ⟨b, o, none⟩) h1
      go_simp; rfl
    simp only [Act.put, List.setIfInBounds_toArray, List.set_cons_succ, List.set_cons_zero, List.nil_append, List.cons_append]
    apply Run.valG (by go_simp)
    · intro w1 h1 hk
      have q0 := h1.cell hp; have q1 := h1.cell y1; have q2 := HL.out _ ((Fut.drew _).trans h1)
      have hcw := fun b o => Below.cell (p := ⟨b, o, none⟩) h1
      go_simp; rfl
    simp only [Act.put, List.setIfInBounds_toArray, List.set_cons_succ, List.set_cons_zero, List.nil_append, List.cons_append]
    apply Run.valG (by go_simp)
    · intro w1 h1 hk
      have q0 := h1.cell hp; have q1 := h1.cell y1; have q2 := HL.out _ ((Fut.drew _).trans h1)
      have hcw := fun b o => Below.cell (p := ⟨b, o, none⟩) h1
      go_simp; rfl
    simp only [Act.put, List.setIfInBounds_toArray, List.set_cons_succ, List.set_cons_zero, List.nil_append, List.cons_append]
    apply Run.valG (by go_simp)
    · intro w1 h1 hk
      have q0 := h1.cell hp; have q1 := h1.cell y1; have q2 := HL.out _ ((Fut.drew _).trans h1)
      have hcw := fun b o => Below.cell (p := ⟨b, o, none⟩) h1
      go_simp; rfl
    simp only [Act.put, List.setIfInBounds_toArray, List.set_cons_succ, List.set_cons_zero, List.nil_append, List.cons_append]
    apply Run.valG (by go_simp)
    · intro w1 h1 hk
      have q0 := h1.cell hp; have q1 := h1.cell y1; have q2 := HL.out _ ((Fut.drew _).trans h1)
      have hcw := fun b o => Below.cell (p := ⟨b, o, none⟩) h1
      go_simp; rfl
    simp only [Act.put, List.setIfInBounds_toArray, List.set_cons_succ, List.set_cons_zero, List.nil_append, List.cons_append]
    apply Run.valG (by go_simp)
    · intro w1 h1 hk
      have q0 := h1.cell hp; have q1 := h1.cell y1; have q2 := HL.out _ ((Fut.drew _).trans h1)
      have hcw := fun b o => Below.cell (p := ⟨b, o, none⟩) h1
      go_simp; rfl
    simp only [Act.put, List.setIfInBounds_toArray, List.set_cons_succ, List.set_cons_zero, List.nil_append, List.cons_append]
    apply Run.valG (by go_simp)
    · intro w1 h1 hk
      have q0 := h1.cell hp; have q1 := h1.cell y1; have q2 := HL.out _ ((Fut.drew _).trans h1)
      have hcw := fun b o => Below.cell (p := ⟨b, o, none⟩) h1
      go_simp; rfl
    simp only [Act.put, List.setIfInBounds_toArray, List.set_cons_succ, List.set_cons_zero, List.nil_append, List.cons_append]
    apply Run.valG (wanted_none rfl _)
    · intro w1 h1 hk
      have q0 := h1.cell hp; have q1 := h1.cell y1; have q2 := HL.out _ ((Fut.drew _).trans h1)
      have hcw := fun b o => Below.cell (p := ⟨b, o, none⟩) h1
      go_simp; rfl
    simp only [Act.put, List.setIfInBounds_toArray, List.set_cons_succ, List.set_cons_zero, List.nil_append, List.cons_append]
    apply Run.done
    intro w2 h2 hk
    clear hk
    have F := (Fut.drew w).trans h2
    go_wp2
    (try simp only [Exit.inBlock, Exit.then]); refine bodyPost_ret (results_none rfl _ _ _) rfl ?_
    exact ⟨⟨_, rfl⟩, lv, H.out.fut F, Only.fut F, fun k hk => .inl hk⟩
  · have hA : addVar L v = L ++ [v] := by unfold addVar; rw [if_neg e1, if_neg e2, if_neg e3]
    rw [hA]
    have hnk : ∀ q ∈ numE 0 L, q.1 ≠ v := fun q hq e => e3 (by
      have h9 : q.1 ∈ (numE 0 L).map (·.1) := List.mem_map.2 ⟨q, hq, rfl⟩
      rw [numE_keys, e] at h9; exact h9)
    rw [getE_none hnk, Option.getD_none] at HL
    have HOK := Lib.hid hok
    have HNK := Lib.hid hnk
    clear hok hnk hA
    go_enter Try.func47, Try.ntmps47
    go_wp2_with fail
    refine wp_graph 21 [.d, .d, .d, .d, .d, .d, .d, .d, .d, .d, .d, .d, .d, .d, .d, .d, .d, .d, .d, .d, .d] (by kernel_rfl) (by kernel_rfl) (by kernel_rfl) ?_
    simp only [List.take_succ_cons, List.take_zero, List.drop_succ_cons, List.drop_zero, Exs]
    iterate 21 apply Exists.intro
    apply Run.valG (wanted_none rfl _)
    · intro w1 h1 hk
      have q0 := h1.cell hp; have q1 := h1.cell y1; have q2 := HL.out _ ((Fut.drew _).trans h1)
      have hcw := fun b o => Below.cell (p := ⟨b, o, none⟩) h1
      go_simp; rfl
    simp only [Act.put, List.setIfInBounds_toArray, List.set_cons_succ, List.set_cons_zero, List.nil_append, List.cons_append]
    apply Run.valG (wanted_none rfl _)
    · intro w1 h1 hk
      have q0 := h1.cell hp; have q1 := h1.cell y1; have q2 := HL.out _ ((Fut.drew _).trans h1)
      have hcw := fun b o => Below.cell (p := ⟨b, o, none⟩) h1
      go_simp; rfl
    simp only [Act.put, List.setIfInBounds_toArray, List.set_cons_succ, List.set_cons_zero, List.nil_append, List.cons_append]
    apply Run.valG (wanted_none rfl _)
    · intro w1 h1 hk
      have q0 := h1.cell hp; have q1 := h1.cell y1; have q2 := HL.out _ ((Fut.drew _).trans h1)
      have hcw := fun b o => Below.cell (p := ⟨b, o, none⟩) h1
      go_simp; rfl
    simp only [Act.put, List.setIfInBounds_toArray, List.set_cons_succ, List.set_cons_zero, List.nil_append, List.cons_append]
    apply Run.valG (wanted_none rfl _)
    · intro w1 h1 hk
      have q0 := h1.cell hp; have q1 := h1.cell y1; have q2 := HL.out _ ((Fut.drew _).trans h1)
      have hcw := fun b o => Below.cell (p := ⟨b, o, none⟩) h1
      go_simp; rfl
    simp only [Act.put, List.setIfInBounds_toArray, List.set_cons_succ, List.set_cons_zero, List.nil_append, List.cons_append]
    apply Run.valG (wanted_none rfl _)
    · intro w1 h1 hk
      have q0 := h1.cell hp; have q1 := h1.cell y1; have q2 := HL.out _ ((Fut.drew _).trans h1)
      have hcw := fun b o => Below.cell (p := ⟨b, o, none⟩) h1
      go_simp; rfl
    simp only [Act.put, List.setIfInBounds_toArray, List.set_cons_succ, List.set_cons_zero, List.nil_append, List.cons_append]
    apply Run.valG (wanted_none rfl _)
    · intro w1 h1 hk
      have q0 := h1.cell hp; have q1 := h1.cell y1; have q2 := HL.out _ ((Fut.drew _).trans h1)
      have hcw := fun b o => Below.cell (p := ⟨b, o, none⟩) h1
      go_simp; rfl
    simp only [Act.put, List.setIfInBounds_toArray, List.set_cons_succ, List.set_cons_zero, List.nil_append, List.cons_append]
    apply Run.valG (by go_simp)
    · intro w1 h1 hk
      have q0 := h1.cell hp; have q1 := h1.cell y1; have q2 := HL.out _ ((Fut.drew _).trans h1)
      have hcw := fun b o => Below.cell (p := ⟨b, o, none⟩) h1
      go_simp; rfl
    simp only [Act.put, List.setIfInBounds_toArray, List.set_cons_succ, List.set_cons_zero, List.nil_append, List.cons_append]
    apply Run.valG (by go_simp)
    · intro w1 h1 hk
      have q0 := h1.cell hp; have q1 := h1.cell y1; have q2 := HL.out _ ((Fut.drew _).trans h1)
      have hcw := fun b o => Below.cell (p := ⟨b, o, none⟩) h1
      go_simp; rfl
    simp only [Act.put, List.setIfInBounds_toArray, List.set_cons_succ, List.set_cons_zero, List.nil_append, List.cons_append]
    apply Run.valG (by go_simp)
    · intro w1 h1 hk
      have q0 := h1.cell hp; have q1 := h1.cell y1; have q2 := HL.out _ ((Fut.drew _).trans h1)
      have hcw := fun b o => Below.cell (p := ⟨b, o, none⟩) h1
      go_simp; rfl
    simp only [Act.put, List.setIfInBounds_toArray, List.set_cons_succ, List.set_cons_zero, List.nil_append, List.cons_append]
    apply Run.valG (by go_simp)
    · intro w1 h1 hk
      have q0 := h1.cell hp; have q1 := h1.cell y1; have q2 := HL.out _ ((Fut.drew _).trans h1)
      have hcw := fun b o => Below.cell (p := ⟨b, o, none⟩) h1
      go_simp; rfl
    simp only [Act.put, List.setIfInBounds_toArray, List.set_cons_succ, List.set_cons_zero, List.nil_append, List.cons_append]
    apply Run.valG (by go_simp)
    · intro w1 h1 hk
      have q0 := h1.cell hp; have q1 := h1.cell y1; have q2 := HL.out _ ((Fut.drew _).trans h1)
      have hcw := fun b o => Below.cell (p := ⟨b, o, none⟩) h1
      go_simp; rfl
    simp only [Act.put, List.setIfInBounds_toArray, List.set_cons_succ, List.set_cons_zero, List.nil_append, List.cons_append]
    apply Run.valG (wanted_none rfl _)
    · intro w1 h1 hk
      have q0 := h1.cell hp; have q1 := h1.cell y1; have q2 := HL.out _ ((Fut.drew _).trans h1)
      have hcw := fun b o => Below.cell (p := ⟨b, o, none⟩) h1
      go_simp; rfl
    simp only [Act.put, List.setIfInBounds_toArray, List.set_cons_succ, List.set_cons_zero, List.nil_append, List.cons_append]
    apply Run.valG (wanted_none rfl _)
    · intro w1 h1 hk
      have q0 := h1.cell hp; have q1 := h1.cell y1; have q2 := HL.out _ ((Fut.drew _).trans h1)
      have hcw := fun b o => Below.cell (p := ⟨b, o, none⟩) h1
      go_simp; rfl
    simp only [Act.put, List.setIfInBounds_toArray, List.set_cons_succ, List.set_cons_zero, List.nil_append, List.cons_append]
    apply Run.valG (by go_simp)
    · intro w1 h1 hk
      have q0 := h1.cell hp; have q1 := h1.cell y1; have q2 := HL.out _ ((Fut.drew _).trans h1)
      have hcw := fun b o => Below.cell (p := ⟨b, o, none⟩) h1
      go_simp; rfl
    simp only [Act.put, List.setIfInBounds_toArray, List.set_cons_succ, List.set_cons_zero, List.nil_append, List.cons_append]
    apply Run.valG (by go_simp)
    · intro w1 h1 hk
      have q0 := h1.cell hp; have q1 := h1.cell y1; have q2 := HL.out _ ((Fut.drew _).trans h1)
      have hcw := fun b o => Below.cell (p := ⟨b, o, none⟩) h1
      go_simp; rfl
    simp only [Act.put, List.setIfInBounds_toArray, List.set_cons_succ, List.set_cons_zero, List.nil_append, List.cons_append]
    apply Run.valG (by go_simp)
    · intro w1 h1 hk
      have q0 := h1.cell hp; have q1 := h1.cell y1; have q2 := HL.out _ ((Fut.drew _).trans h1)
      have hcw := fun b o => Below.cell (p := ⟨b, o, none⟩) h1
      go_simp; rfl
    simp only [Act.put, List.setIfInBounds_toArray, List.set_cons_succ, List.set_cons_zero, List.nil_append, List.cons_append]
    apply Run.valG (by go_simp)
    · intro w1 h1 hk
      have q0 := h1.cell hp; have q1 := h1.cell y1; have q2 := HL.out _ ((Fut.drew _).trans h1)
      have hcw := fun b o => Below.cell (p := ⟨b, o, none⟩) h1
      go_simp; rfl
    simp only [Act.put, List.setIfInBounds_toArray, List.set_cons_succ, List.set_cons_zero, List.nil_append, List.cons_append]
    apply Run.valG (by go_simp)
    · intro w1 h1 hk
      have q0 := h1.cell hp; have q1 := h1.cell y1; have q2 := HL.out _ ((Fut.drew _).trans h1)
      have hcw := fun b o => Below.cell (p := ⟨b, o, none⟩) h1
      go_simp; rfl
    simp only [Act.put, List.setIfInBounds_toArray, List.set_cons_succ, List.set_cons_zero, List.nil_append, List.cons_append]
    apply Run.valG (by go_simp)
    · intro w1 h1 hk
      have q0 := h1.cell hp; have q1 := h1.cell y1; have q2 := HL.out _ ((Fut.drew _).trans h1)
      have hcw := fun b o => Below.cell (p := ⟨b, o, none⟩) h1
      go_simp; rfl
    simp only [Act.put, List.setIfInBounds_toArray, List.set_cons_succ, List.set_cons_zero, List.nil_append, List.cons_append]
    apply Run.valG (by go_simp)
    · intro w1 h1 hk
      have q0 := h1.cell hp; have q1 := h1.cell y1; have q2 := HL.out _ ((Fut.drew _).trans h1)
      have hcw := fun b o => Below.cell (p := ⟨b, o, none⟩) h1
      go_simp; rfl
    simp only [Act.put, List.setIfInBounds_toArray, List.set_cons_succ, List.set_cons_zero, List.nil_append, List.cons_append]
    apply Run.valG (wanted_none rfl _)
    · intro w1 h1 hk
      have q0 := h1.cell hp; have q1 := h1.cell y1; have q2 := HL.out _ ((Fut.drew _).trans h1)
      have hcw := fun b o => Below.cell (p := ⟨b, o, none⟩) h1
      go_simp; rfl
    simp only [Act.put, List.setIfInBounds_toArray, List.set_cons_succ, List.set_cons_zero, List.nil_append, List.cons_append]
    apply Run.done
    intro w2 h2 hk
    clear hk
    have F2 := (Fut.drew w).trans h2
    replace H := Lib.hid (H.out.fut F2)
    replace hp := F2.cell hp
    have y3 := F2.cell y1
    have y4 := F2.cell y2
    replace F2 := Lib.hid F2
    clear HL h2 y1 y2
    go_wp2_with fail
    refine wp_graph 6 [.d, .d, .d, .d, .d, .r (fun u W => (∃ A, u = .slice A 1 1) ∧ SlRep 1 1 RNm W u [v])] (by kernel_rfl) (by kernel_rfl) (by kernel_rfl) ?_
    simp only [List.take_succ_cons, List.take_zero, List.drop_succ_cons, List.drop_zero, Exs]
    iterate 5 apply Exists.intro
    apply Run.valG (wanted_none rfl _)
    · intro w1 h1 hk
      have q0 := h1.cell hp; have q1 := h1.cell y4
      have hcw := fun b o => Below.cell (p := ⟨b, o, none⟩) h1
      go_simp; rfl
    simp only [Act.put, List.setIfInBounds_toArray, List.set_cons_succ, List.set_cons_zero, List.nil_append, List.cons_append]
    apply Run.valG (wanted_none rfl _)
    · intro w1 h1 hk
      have q0 := h1.cell hp; have q1 := h1.cell y4
      have hcw := fun b o => Below.cell (p := ⟨b, o, none⟩) h1
      go_simp; rfl
    simp only [Act.put, List.setIfInBounds_toArray, List.set_cons_succ, List.set_cons_zero, List.nil_append, List.cons_append]
    apply Run.valG (wanted_none rfl _)
    · intro w1 h1 hk
      have q0 := h1.cell hp; have q1 := h1.cell y4
      have hcw := fun b o => Below.cell (p := ⟨b, o, none⟩) h1
      go_simp; rfl
    simp only [Act.put, List.setIfInBounds_toArray, List.set_cons_succ, List.set_cons_zero, List.nil_append, List.cons_append]
    apply Run.valG (wanted_none rfl _)
    · intro w1 h1 hk
      have q0 := h1.cell hp; have q1 := h1.cell y4
      have hcw := fun b o => Below.cell (p := ⟨b, o, none⟩) h1
      go_simp; rfl
    simp only [Act.put, List.setIfInBounds_toArray, List.set_cons_succ, List.set_cons_zero, List.nil_append, List.cons_append]
    apply Run.valG (wanted_none rfl _)
    · intro w1 h1 hk
      have q0 := h1.cell hp; have q1 := h1.cell y4
      have hcw := fun b o => Below.cell (p := ⟨b, o, none⟩) h1
      go_simp; rfl
    simp only [Act.put, List.setIfInBounds_toArray, List.set_cons_succ, List.set_cons_zero, List.nil_append, List.cons_append]
    apply Run.valR (wanted_none rfl _) (by intro v w w' hf hs; exact ⟨hs.1, hs.2.fut RNm.stays hf⟩)
    · intro w1 h1 hk
      have q0 := h1.cell hp; have q1 := h1.cell y4
      go_simp; exact ⟨_, _, ⟨rfl, rfl⟩, Fut.alloc _ _, ⟨_, rfl⟩, nmOne _ _ _⟩
    intro v5
    simp only [Act.put, List.setIfInBounds_toArray, List.set_cons_succ, List.set_cons_zero, List.nil_append, List.cons_append]
    apply Run.done
    intro w2 h2 hk
    obtain ⟨f5, _⟩ := hk
    obtain ⟨⟨A5, rfl⟩, hS5⟩ := f5
    have F3 := (Fut.drew _).trans h2
    have HA := H.out.fut F3
    have hsep := HA.sep
    have F23 := F2.out.trans F3
    have hF3 := F3.size
    replace hS5 := Lib.hid hS5
    replace hp := F3.cell hp
    clear y3 y4 h2 H F2
    replace HA := Lib.hid HA
    replace F23 := Lib.hid F23
    go_wp2_with (first | (at_builtin; refine wpList_append_LB (R := RNm) (B := B) (M := 1) (xs := L) (ys := [v]) (e := 9) (by go_simp) _ _ tVl' rfl Try.underlying68 (.string ⟨#[]⟩) 16 infoNm rfl (by decide) RNm.one RNm.keeps rfl rfl HA.out.list hS5.out ?l3 ?l4 ?b3 ?k3))
    case l3 => simp [maxLen]; omega
    case l4 => simp; omega
    case b3 => have := F23.out.size; omega
    case k3 =>
    intro v' w' o' g' sn'
    obtain ⟨c1, c2, m2, c3, c4, O2, hK⟩ := HA.out.grow o' g' sn' hv
    obtain ⟨A8, c8, rfl, hc8, _⟩ := o'.rep.form
    rw [List.length_append, List.length_singleton] at hc8 c3 c4 m2 hK O2 ⊢
    obtain ⟨w5, hw5⟩ : ∃ W, w'.setCell ⟨bl, 0, none⟩ (.slice A8 (L.length + 1) c8) = W := ⟨_, rfl⟩
    rw [hw5] at c3 c4 m2 hK O2
    replace hK := Lib.hid hK
    have o8 : ∀ k, (Value.slice A8 (L.length + 1) c8).ownBlock = some k → lv.ownBlock = some k ∨ w.heap.size ≤ k := fun k hk => by
      rcases sn' with e | e
      · left; rw [← e]; rw [List.length_append, List.length_singleton]; exact hk
      · right
        have h9 := e k (by rw [List.length_append, List.length_singleton]; exact hk)
        have := F23.out.size
        omega
    have OA : Only (fun k => vfoot bl mb lv k ∨ w.heap.size ≤ k) w w5 := (Only.fut F23.out).trans (O2.mono fun k _ hk => .inl hk)
    replace O2 := Lib.hid O2
    have hlow := HA.out.low
    have hp5 := O2.out.cell hp (by
      rintro (h9 | h9 | h9)
      · have h9 : pb = bl := h9; omega
      · have h9 : pb = mb := h9; omega
      · have h10 := (HA.out.list.block _ h9).1; have h10 : B ≤ pb := h10; omega)
    have hi2 := infoNms
    go_wp2_with (first | (refine wpList_store_1 (wanted_none rfl _) _ _ rfl rfl rfl hi2 rfl c1 c2 hw5 ?_))
    clear hw5 c1 c2 g' sn' o' hp hF3 hsep
    refine wp_graph 7 [.d, .d, .d, .d, .d, .d, .d] (by kernel_rfl) (by kernel_rfl) (by kernel_rfl) ?_
    simp only [List.take_succ_cons, List.take_zero, List.drop_succ_cons, List.drop_zero, Exs]
    iterate 7 apply Exists.intro
    apply Run.valG (wanted_none rfl _)
    · intro w1 h1 hk
      have q0 := h1.cell hp5; have q1 := h1.cell c3; have q2 := h1.cell c4
      have hcw := fun b o => Below.cell (p := ⟨b, o, none⟩) h1
      go_simp; rfl
    simp only [Act.put, List.setIfInBounds_toArray, List.set_cons_succ, List.set_cons_zero, List.nil_append, List.cons_append]
    apply Run.valG (wanted_none rfl _)
    · intro w1 h1 hk
      have q0 := h1.cell hp5; have q1 := h1.cell c3; have q2 := h1.cell c4
      have hcw := fun b o => Below.cell (p := ⟨b, o, none⟩) h1
      go_simp; rfl
    simp only [Act.put, List.setIfInBounds_toArray, List.set_cons_succ, List.set_cons_zero, List.nil_append, List.cons_append]
    apply Run.valG (wanted_none rfl _)
    · intro w1 h1 hk
      have q0 := h1.cell hp5; have q1 := h1.cell c3; have q2 := h1.cell c4
      have hcw := fun b o => Below.cell (p := ⟨b, o, none⟩) h1
      go_simp; rfl
    simp only [Act.put, List.setIfInBounds_toArray, List.set_cons_succ, List.set_cons_zero, List.nil_append, List.cons_append]
    apply Run.valG (wanted_none rfl _)
    · intro w1 h1 hk
      have q0 := h1.cell hp5; have q1 := h1.cell c3; have q2 := h1.cell c4
      have hcw := fun b o => Below.cell (p := ⟨b, o, none⟩) h1
      go_simp; rfl
    simp only [Act.put, List.setIfInBounds_toArray, List.set_cons_succ, List.set_cons_zero, List.nil_append, List.cons_append]
    apply Run.valG (wanted_none rfl _)
    · intro w1 h1 hk
      have q0 := h1.cell hp5; have q1 := h1.cell c3; have q2 := h1.cell c4
      have hcw := fun b o => Below.cell (p := ⟨b, o, none⟩) h1
      go_simp; rfl
    simp only [Act.put, List.setIfInBounds_toArray, List.set_cons_succ, List.set_cons_zero, List.nil_append, List.cons_append]
    apply Run.valG (wanted_none rfl _)
    · intro w1 h1 hk
      have q0 := h1.cell hp5; have q1 := h1.cell c3; have q2 := h1.cell c4
      have hcw := fun b o => Below.cell (p := ⟨b, o, none⟩) h1
      go_simp; rfl
    simp only [Act.put, List.setIfInBounds_toArray, List.set_cons_succ, List.set_cons_zero, List.nil_append, List.cons_append]
    apply Run.valG (wanted_none rfl _)
    · intro w1 h1 hk
      have q0 := h1.cell hp5; have q1 := h1.cell c3; have q2 := h1.cell c4
      have hcw := fun b o => Below.cell (p := ⟨b, o, none⟩) h1
      go_simp; rfl
    simp only [Act.put, List.setIfInBounds_toArray, List.set_cons_succ, List.set_cons_zero, List.nil_append, List.cons_append]
    apply Run.done
    intro w2 h2 hk
    clear hk
    have F5 := (Fut.drew _).trans h2
    have hOK2 : ∀ q ∈ numE 0 L, q.1.size ≤ maxLen := HOK.out
    refine wpList_mapNum (wanted_none rfl _) _ _ _ rfl rfl rfl rfl (m2.fut F5) HOK.out hvm HNK.out ?_
    intro w6 m6 g6
    replace m6 : MapE strV w6 mb (numE 0 (L ++ [v])) := by rw [numE_snoc, show ((0 + L.length + 1 : Nat) : Int) = (L.length : Int) + 1 by omega]; exact m6
    have HV := hK.out w2 w6 F5 m6 g6
    have O6 : Only (fun k => vfoot bl mb lv k ∨ w.heap.size ≤ k) w w6 := OA.trans ((Only.fut F5).trans (Only.grown g6 fun k hk => by injection hk with hk; exact .inl (.inr (.inl hk.symm))))
    go_wp2
    go_end0
    exact ⟨⟨_, rfl⟩, _, HV, O6, o8⟩
end Go.Proofs.Ytcpphabehpbmlaa
