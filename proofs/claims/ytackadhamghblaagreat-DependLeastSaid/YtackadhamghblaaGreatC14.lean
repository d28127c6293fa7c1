/- DTarj, DTarjM, DVisit -/
import Derived.Test.YtackadhamghblaaGreatC13
/- depend.graph.parts: Tarjan's way, plainly; its state in memory. -/
namespace Go.Proofs.YtackadhamghblaaGreat
open Go.RowKit Go.WideMaps Go.Maps
set_option linter.unusedSimpArgs false
set_option linter.unusedVariables false

abbrev Nums := List (ByteArray × Nat)
def lkN (l : Nums) (s : ByteArray) : Option Nat := (l.find? fun x => decide (x.1 = s)).map (·.2)
def putN (l : Nums) (s : ByteArray) (n : Nat) : Nums := l.map fun x => if x.1 = s then (x.1, n) else x
def nodupB : List ByteArray → Bool
  | [] => true
  | x :: r => !decide (x ∈ r) && nodupB r
theorem nodupB_iff : ∀ l : List ByteArray, nodupB l = true → l.Nodup
  | [], _ => List.nodup_nil
  | x :: r, h => by
    unfold nodupB at h
    rw [Bool.and_eq_true] at h
    rw [List.nodup_cons]
    exact ⟨by simpa using h.1, nodupB_iff r h.2⟩
structure TS where
  low : Nums
  stk : List ByteArray
  inn : Nums
  out : List (List ByteArray)
def TS.fine (T : TS) : Bool := decide (T.low.length ≤ 100000000) && decide (T.stk.length ≤ 100000000) && decide (T.inn.length ≤ 100000000) && decide (T.out.length ≤ 100000000)
def stepT (v : TS → ByteArray → Option (TS × Nat)) (acc : Option (TS × Nat)) (t : ByteArray) : Option (TS × Nat) :=
  match acc with
  | none => none
  | some (T, m) => match lkN T.inn t with
    | some _ => some (T, m)
    | none => match lkN T.low t with
      | some k => some (T, min m k)
      | none => match v T t with
        | none => none
        | some (T', k) => some (T', min m k)
def finT (T : TS) (s : ByteArray) (mine : Nat) : Option (TS × Nat) :=
  match idxP s T.stk with
  | none => none
  | some a => if T.fine = true ∧ nodupB (T.stk.drop a) = true ∧ ((T.stk.drop a).any fun t => (lkN T.inn t).isSome) = false then
      some ({ T with stk := T.stk.take a, inn := T.inn ++ (sortU cmpS (T.stk.drop a)).map (fun t => (t, T.out.length)), out := T.out ++ [sortU cmpS (T.stk.drop a)] }, mine) else none
def visitT (G : Gr) : Nat → TS → ByteArray → Option (TS × Nat)
  | 0, _, _ => none
  | n + 1, T, s =>
    if T.fine = true ∧ lkN T.low s = none then
      match (sucs G s).foldl (stepT (visitT G n)) (some ({ T with low := T.low ++ [(s, T.low.length + 1)], stk := T.stk ++ [s] }, T.low.length + 1)) with
      | none => none
      | some (T2, m) => if m < T.low.length + 1 then (match lkN T2.low s with
          | none => none
          | some _ => some ({ T2 with low := putN T2.low s m }, m)) else finT T2 s (T.low.length + 1)
    else none
theorem fold_none (v : TS → ByteArray → Option (TS × Nat)) : ∀ l : List ByteArray, l.foldl (stepT v) none = none
  | [] => rfl
  | x :: r => by rw [List.foldl_cons]; exact fold_none v r
theorem fold_some {v : TS → ByteArray → Option (TS × Nat)} {l : List ByteArray} {a : TS × Nat} {r : TS × Nat} (h : l.foldl (stepT v) (some a) = some r) (k : Nat) : ∃ b, (l.take k).foldl (stepT v) (some a) = some b := by
  cases hq : (l.take k).foldl (stepT v) (some a) with
  | some b => exact ⟨b, rfl⟩
  | none =>
    rw [← List.take_append_drop k l, List.foldl_append, hq, fold_none] at h
    cases h
/-! ### In memory -/
def encN (l : Nums) : List (ByteArray × Value) := l.map fun x => (x.1, .int .i64 (x.2 : Nat))
theorem encN_keys (l : Nums) : (encN l).map (·.1) = l.map (·.1) := by unfold encN; rw [List.map_map]; rfl
theorem lkN_at {l : Nums} (hn : (l.map (·.1)).Nodup) {s : ByteArray} {n : Nat} (h : lkN l s = some n) : ∃ i : Nat, l[i]? = some (s, n) := by
  unfold lkN at h
  cases hq : l.find? (fun x => decide (x.1 = s)) with
  | none => rw [hq] at h; cases h
  | some x =>
    rw [hq] at h
    injection h with h
    obtain ⟨i, hi⟩ := List.getElem?_of_mem (List.mem_of_find?_eq_some hq)
    have h1 : x.1 = s := by simpa using List.find?_some hq
    exact ⟨i, by rw [hi, ← h1, ← h]⟩
theorem lkN_none {l : Nums} {s : ByteArray} (h : lkN l s = none) : ∀ x ∈ l, x.1 ≠ s := fun x hx e => by
  unfold lkN at h
  rw [Option.map_eq_none_iff, List.find?_eq_none] at h
  exact h x hx (by simpa using e)
theorem look_num {w : World} {b : Nat} {l : Nums} {s : ByteArray} (h : MapE strV w b (encN l)) (hs : ∀ x ∈ l, x.1.size ≤ 140737488351232) (hp : s.size ≤ 140737488351232) :
    (Instr.lookup tVm (.map (some b)) (.string s) true).run Tryz.prog w = .ok (.tuple #[.int .i64 (((lkN l s).getD 0 : Nat) : Int), .bool (lkN l s).isSome]) w ∧ (Instr.lookup tVm (.map (some b)) (.string s) false).run Tryz.prog w = .ok (.int .i64 (((lkN l s).getD 0 : Nat) : Int)) w := by
  have hok : ∀ q ∈ encN l, q.1.size ≤ maxLen := fun q hq => by
    obtain ⟨x, hx, rfl⟩ := List.mem_map.1 hq
    exact Nat.le_trans (hs x hx) (by unfold maxLen; omega)
  have h1 := h.look (t := tVm) keyStr hok Tryz.underlying75 zeroInt (x := s) (Nat.le_trans hp (by unfold maxLen; omega))
  have hg : getE (encN l) s = (lkN l s).map fun n => .int .i64 (n : Nat) := by
    unfold getE encN lkN
    rw [List.find?_map, Option.map_map, Option.map_map]
    rfl
  rw [hg] at h1
  cases hq : lkN l s with
  | none => rw [hq] at h1; exact ⟨h1.2, h1.1⟩
  | some n => rw [hq] at h1; exact ⟨h1.2, h1.1⟩
theorem push_num {w : World} {b : Nat} {l : Nums} {s : ByteArray} (h : MapE strV w b (encN l)) (hs : ∀ x ∈ l, x.1.size ≤ 140737488351232) (hp : s.size ≤ 140737488351232) (hn : lkN l s = none) (n : Nat) :
    ∃ w', (Instr.mapUpdate tVm (.map (some b)) (.string s) (.int .i64 (n : Nat))).run Tryz.prog w = .ok () w' ∧ MapE strV w' b (encN (l ++ [(s, n)])) ∧ w.grownBy w' (some b) := by
  have hok : ∀ q ∈ encN l, q.1.size ≤ maxLen := fun q hq => by
    obtain ⟨x, hx, rfl⟩ := List.mem_map.1 hq
    exact Nat.le_trans (hs x hx) (by unfold maxLen; omega)
  obtain ⟨w', h1, h2, h3⟩ := h.push (t := tVm) keyStr hok Tryz.underlying75 (x := s) (Nat.le_trans hp (by unfold maxLen; omega)) (fun q hq => by
    obtain ⟨x, hx, rfl⟩ := List.mem_map.1 hq
    exact lkN_none hn x hx) (.int .i64 (n : Nat))
  refine ⟨w', h1, ?_, h3⟩
  have e : encN (l ++ [(s, n)]) = encN l ++ [(s, .int .i64 (n : Nat))] := by unfold encN; rw [List.map_append]; rfl
  rw [e]
  exact h2
theorem putN_set {l : Nums} (hn : (l.map (·.1)).Nodup) {i : Nat} {s : ByteArray} {m : Nat} (hi : l[i]? = some (s, m)) (n : Nat) : putN l s n = l.set i (s, n) := by
  refine List.ext_getElem? fun j => ?_
  unfold putN
  rw [List.getElem?_map, List.getElem?_set]
  by_cases hj : i = j
  · subst hj
    rw [if_pos rfl, if_pos (List.getElem?_eq_some_iff.1 hi).1, hi]
    simp
  · rw [if_neg hj]
    cases hx : l[j]? with
    | none => rfl
    | some x =>
      have hne : x.1 ≠ s := fun e => by
        have e1 : (l.map (·.1))[i]? = some s := by rw [List.getElem?_map, hi]; rfl
        have e2 : (l.map (·.1))[j]? = some s := by rw [List.getElem?_map, hx, ← e]; rfl
        exact hj (List.getElem?_inj (List.getElem?_eq_some_iff.1 e1).1 hn |>.1 (e1.trans e2.symm))
      simp [hne]
theorem put_num {w : World} {b : Nat} {l : Nums} {s : ByteArray} {m : Nat} (h : MapE strV w b (encN l)) (hs : ∀ x ∈ l, x.1.size ≤ 140737488351232) (hp : s.size ≤ 140737488351232) (hn : lkN l s = some m) (n : Nat) :
    ∃ w', (Instr.mapUpdate tVm (.map (some b)) (.string s) (.int .i64 (n : Nat))).run Tryz.prog w = .ok () w' ∧ MapE strV w' b (encN (putN l s n)) ∧ w.grownBy w' (some b) := by
  have hok : ∀ q ∈ encN l, q.1.size ≤ maxLen := fun q hq => by
    obtain ⟨x, hx, rfl⟩ := List.mem_map.1 hq
    exact Nat.le_trans (hs x hx) (by unfold maxLen; omega)
  have hnd : (l.map (·.1)).Nodup := by
    have := h.nodup
    rwa [encN_keys] at this
  obtain ⟨i, hi⟩ := lkN_at hnd hn
  obtain ⟨w', h1, h2, h3⟩ := h.put (t := tVm) keyStr hok Tryz.underlying75 (x := s) (Nat.le_trans hp (by unfold maxLen; omega)) (j := i) (u := .int .i64 (m : Nat)) (by unfold encN; rw [List.getElem?_map, hi]; rfl) (.int .i64 (n : Nat))
  refine ⟨w', h1, ?_, h3⟩
  rw [putN_set hnd hi]
  unfold encN
  rw [List.map_set]
  exact h2
abbrev tLL : TypeId := 76
/-- A list of names within a list, apart from the stack's. -/
def RLs (sv : Value) (w : World) (cs : List Value) (L : List ByteArray) : Prop := ∃ v, cs = [v] ∧ Nms 0 w v L ∧ ∀ k, v.ownBlock = some k → sv.ownBlock ≠ some k
theorem RLs.stays {sv : Value} : Stays (RLs sv) := fun _ _ _ _ hf ⟨v, h1, h2, h3⟩ => ⟨v, h1, h2.fut RNm.stays hf, h3⟩
theorem RLs.keeps {sv : Value} : Keeps 37 (RLs sv) := fun w w' row cs x ⟨v, h1, h2, h3⟩ hg ht => ⟨v, h1, OwnL.kept h2 (fun _ _ h => h) hg ht (by decide), h3⟩
theorem RLs.one {sv : Value} : ∀ (w : World) cs x, RLs sv w cs x → ∀ u ∈ cs, u.oneCell' = true := fun w cs x ⟨v, h1, h2, _⟩ u hu => by
  obtain ⟨_, _, rfl, _⟩ := h2.rep.form
  subst h1
  simp only [List.mem_singleton] at hu
  subst hu; rfl
structure TSt (B : Nat) (W : World) (lb sb ib ob lmb imb : Nat) (T : TS) (sv ov : Value) : Prop where
  lowc : W.heap[lb]? = some (.cells #[.map (some lmb)] tVm (0, 0))
  lowm : MapE strV W lmb (encN T.low)
  innc : W.heap[ib]? = some (.cells #[.map (some imb)] tVm (0, 0))
  innm : MapE strV W imb (encN T.inn)
  stkc : W.heap[sb]? = some (.cells #[sv] tVl' (0, 0))
  stk : Nms B W sv T.stk
  outc : W.heap[ob]? = some (.cells #[ov] tLL (0, 0))
  out : OwnL 1 B 37 (RLs sv) W ov T.out
  sep : ∀ k, ov.ownBlock = some k → k ≠ sb
  lows : ∀ x ∈ T.low, x.1.size ≤ 140737488351232
  inns : ∀ x ∈ T.inn, x.1.size ≤ 140737488351232
  stks : ∀ x ∈ T.stk, x.size ≤ 140737488351232
  ne : lmb ≠ imb
  lt : sb < B
section
variable {B lb sb ib ob lmb imb : Nat} {W w' : World} {T : TS} {sv ov sv' ov' : Value}
theorem TSt.fut (h : TSt B W lb sb ib ob lmb imb T sv ov) (hf : Fut W w') : TSt B w' lb sb ib ob lmb imb T sv ov :=
  ⟨hf.block h.lowc, h.lowm.fut hf, hf.block h.innc, h.innm.fut hf, hf.block h.stkc, h.stk.fut RNm.stays hf, hf.block h.outc, h.out.fut RLs.stays hf, h.sep, h.lows, h.inns, h.stks, h.ne, h.lt⟩
/-- What lies in a typed block is no map. -/
theorem TSt.noMap (h : TSt B W lb sb ib ob lmb imb T sv ov) {k : Nat} {arr : Array Value} {t : TypeId} (hk : W.heap[k]? = some (.cells arr t (0, 0))) : k ≠ lmb ∧ k ≠ imb := ⟨(map_ne h.lowm hk).symm, (map_ne h.innm hk).symm⟩
/-- The lists of out through a step that leaves string blocks but S alone. -/
theorem outs_move {S : Nat → Prop} {xs : List (List ByteArray)} (ho : OwnL 1 B 37 (RLs sv) W ov xs) (hO : Only S W w') (h1 : ∀ k, ov.ownBlock = some k → ¬ S k) (h2 : ∀ k, (∃ arr, W.heap[k]? = some (.cells arr 9 (0, 0))) → sv.ownBlock ≠ some k → ¬ S k) (h3 : ∀ k, k < W.heap.size → sv'.ownBlock = some k → sv.ownBlock = some k) : OwnL 1 B 37 (RLs sv') w' ov xs := by
  have q1 : OwnL 1 B 37 (fun _ cs x => RLs sv W cs x) W ov xs := ho.imp fun cs x hx => hx
  have q2 : OwnL 1 B 37 (fun _ cs x => RLs sv W cs x) w' ov xs := q1.only (fun _ _ h => h) hO h1
  refine q2.imp fun cs x hx => ?_
  obtain ⟨v, g1, g2, g3⟩ := hx
  refine ⟨v, g1, g2.only (fun _ _ h => h) hO fun k hk => h2 k (g2.typed k hk) (g3 k hk), fun k hk e => g3 k hk (h3 k (g2.block k hk).2 e)⟩
/-- A map's step. -/
theorem TSt.mapStep (h : TSt B W lb sb ib ob lmb imb T sv ov) {m : Nat} (hm : m = lmb ∨ m = imb) (hO : Only (fun k => k = m) W w') :
    w'.heap[lb]? = some (.cells #[.map (some lmb)] tVm (0, 0)) ∧ w'.heap[ib]? = some (.cells #[.map (some imb)] tVm (0, 0)) ∧ w'.heap[sb]? = some (.cells #[sv] tVl' (0, 0)) ∧ Nms B w' sv T.stk ∧ w'.heap[ob]? = some (.cells #[ov] tLL (0, 0)) ∧ OwnL 1 B 37 (RLs sv) w' ov T.out := by
  have off : ∀ {k : Nat} {arr : Array Value} {t : TypeId}, W.heap[k]? = some (.cells arr t (0, 0)) → ¬ k = m := fun hk e => by
    have := h.noMap hk
    rcases hm with rfl | rfl
    · exact this.1 e
    · exact this.2 e
  refine ⟨hO.keeps h.lowc (off h.lowc), hO.keeps h.innc (off h.innc), hO.keeps h.stkc (off h.stkc), h.stk.only (fun _ _ h => h) hO fun k hk => ?_, hO.keeps h.outc (off h.outc), outs_move h.out hO (fun k hk => ?_) (fun k hk _ => ?_) (fun k _ e => e)⟩
  · obtain ⟨arr, g⟩ := h.stk.typed k hk; exact off g
  · obtain ⟨arr, g⟩ := h.out.typed k hk; exact off g
  · obtain ⟨arr, g⟩ := hk; exact off g
theorem TSt.lowPush (h : TSt B W lb sb ib ob lmb imb T sv ov) {s : ByteArray} (hs : s.size ≤ 140737488351232) (hn : lkN T.low s = none) (n : Nat) : ∃ w', (Instr.mapUpdate tVm (.map (some lmb)) (.string s) (.int .i64 (n : Nat))).run Tryz.prog W = .ok () w' ∧ TSt B w' lb sb ib ob lmb imb { T with low := T.low ++ [(s, n)] } sv ov ∧ Only (fun k => k = lmb) W w' := by
  obtain ⟨w', h1, h2, h3⟩ := push_num h.lowm h.lows hs hn n
  have O : Only (fun k => k = lmb) W w' := Only.grown h3 fun k hk => (Option.some.inj hk).symm
  obtain ⟨a1, a2, a3, a4, a5, a6⟩ := h.mapStep (.inl rfl) O
  refine ⟨w', h1, ⟨a1, h2, a2, h.innm.kept (O.block imb h.innm.lt fun e => h.ne e.symm), a3, a4, a5, a6, h.sep, fun x hx => ?_, h.inns, h.stks, h.ne, h.lt⟩, O⟩
  rcases List.mem_append.1 hx with hx | hx
  · exact h.lows x hx
  · rw [List.mem_singleton] at hx; subst hx; exact hs
theorem TSt.lowPut (h : TSt B W lb sb ib ob lmb imb T sv ov) {s : ByteArray} {m : Nat} (hs : s.size ≤ 140737488351232) (hn : lkN T.low s = some m) (n : Nat) : ∃ w', (Instr.mapUpdate tVm (.map (some lmb)) (.string s) (.int .i64 (n : Nat))).run Tryz.prog W = .ok () w' ∧ TSt B w' lb sb ib ob lmb imb { T with low := putN T.low s n } sv ov ∧ Only (fun k => k = lmb) W w' := by
  obtain ⟨w', h1, h2, h3⟩ := put_num h.lowm h.lows hs hn n
  have O : Only (fun k => k = lmb) W w' := Only.grown h3 fun k hk => (Option.some.inj hk).symm
  obtain ⟨a1, a2, a3, a4, a5, a6⟩ := h.mapStep (.inl rfl) O
  refine ⟨w', h1, ⟨a1, h2, a2, h.innm.kept (O.block imb h.innm.lt fun e => h.ne e.symm), a3, a4, a5, a6, h.sep, fun x hx => ?_, h.inns, h.stks, h.ne, h.lt⟩, O⟩
  unfold putN at hx
  obtain ⟨y, hy, rfl⟩ := List.mem_map.1 hx
  split
  · exact h.lows y hy
  · exact h.lows y hy
theorem TSt.innPush (h : TSt B W lb sb ib ob lmb imb T sv ov) {s : ByteArray} (hs : s.size ≤ 140737488351232) (hn : lkN T.inn s = none) (n : Nat) : ∃ w', (Instr.mapUpdate tVm (.map (some imb)) (.string s) (.int .i64 (n : Nat))).run Tryz.prog W = .ok () w' ∧ TSt B w' lb sb ib ob lmb imb { T with inn := T.inn ++ [(s, n)] } sv ov ∧ Only (fun k => k = imb) W w' := by
  obtain ⟨w', h1, h2, h3⟩ := push_num h.innm h.inns hs hn n
  have O : Only (fun k => k = imb) W w' := Only.grown h3 fun k hk => (Option.some.inj hk).symm
  obtain ⟨a1, a2, a3, a4, a5, a6⟩ := h.mapStep (.inr rfl) O
  refine ⟨w', h1, ⟨a1, h.lowm.kept (O.block lmb h.lowm.lt h.ne), a2, h2, a3, a4, a5, a6, h.sep, h.lows, fun x hx => ?_, h.stks, h.ne, h.lt⟩, O⟩
  rcases List.mem_append.1 hx with hx | hx
  · exact h.inns x hx
  · rw [List.mem_singleton] at hx; subst hx; exact hs
end
end Go.Proofs.YtackadhamghblaaGreat
/- Tarjan's state in memory: the stack, the list of parts. -/
namespace Go.Proofs.YtackadhamghblaaGreat
open Go.RowKit Go.WideMaps Go.Maps
set_option linter.unusedSimpArgs false
set_option linter.unusedVariables false

section
variable {B lb sb ib ob lmb imb : Nat} {W w' : World} {T : TS} {sv ov sv' ov' : Value}
theorem TSt.sbW (h : TSt B W lb sb ib ob lmb imb T sv ov) : sb < W.heap.size := (Array.getElem?_eq_some_iff.1 h.stkc).1
/-- The stack's cell is written. -/
theorem TSt.setStk (h : TSt B W lb sb ib ob lmb imb T sv ov) (O1 : Only (fun k => sv.ownBlock = some k) W w') (hnew : ∀ k, k < W.heap.size → sv'.ownBlock = some k → sv.ownBlock = some k) {st : List ByteArray} (o : Nms B w' sv' st) (hst : ∀ x ∈ st, x.size ≤ 140737488351232) :
    w'.cell? ⟨sb, 0, none⟩ = some sv ∧ w'.frozen? ⟨sb, 0, none⟩ = false ∧ TSt B (w'.setCell ⟨sb, 0, none⟩ sv') lb sb ib ob lmb imb { T with stk := st } sv' ov ∧ Only (fun k => k = sb ∨ sv.ownBlock = some k) W (w'.setCell ⟨sb, 0, none⟩ sv') := by
  have off : ∀ {k : Nat} {arr : Array Value} {t : TypeId}, W.heap[k]? = some (.cells arr t (0, 0)) → t ≠ 9 → ¬ sv.ownBlock = some k := fun hk ht e => by
    obtain ⟨arr, g⟩ := h.stk.typed _ e
    exact other_block hk g ht rfl
  have a1 := O1.keeps h.lowc (off h.lowc (by decide))
  have a2 := O1.keeps h.innc (off h.innc (by decide))
  have a3 := O1.keeps h.stkc (off h.stkc (by decide))
  have a4 := O1.keeps h.outc (off h.outc (by decide))
  have m1 := h.lowm.kept (O1.block lmb h.lowm.lt fun e => by obtain ⟨arr, g⟩ := h.stk.typed _ e; exact map_ne h.lowm g rfl)
  have m2 := h.innm.kept (O1.block imb h.innm.lt fun e => by obtain ⟨arr, g⟩ := h.stk.typed _ e; exact map_ne h.innm g rfl)
  have o1 : OwnL 1 B 37 (RLs sv') w' ov T.out := outs_move h.out O1 (fun k hk e => by obtain ⟨arr, g⟩ := h.out.typed k hk; exact off g (by decide) e) (fun k _ hne e => hne e) hnew
  have O2 : Only (fun k => k = sb) w' (w'.setCell ⟨sb, 0, none⟩ sv') := Only.set _ _ rfl
  refine ⟨cell_at a3 0 _ rfl, free_at a3 0, ⟨O2.keeps a1 (other_block a1 a3 (by decide)), m1.kept (O2.block lmb m1.lt (map_ne m1 a3)), O2.keeps a2 (other_block a2 a3 (by decide)), m2.kept (O2.block imb m2.lt (map_ne m2 a3)), set_block a3, o.only (fun _ _ h => h) O2 fun k hk e => ?_, O2.keeps a4 (other_block a4 a3 (by decide)), outs_move o1 O2 h.sep (fun k hk _ e => ?_) (fun k _ e => e), h.sep, h.lows, h.inns, hst, h.ne, h.lt⟩, (O1.mono fun k _ hk => .inr hk).trans (O2.mono fun k _ hk => .inl hk)⟩
  · obtain ⟨arr, g⟩ := o.typed k hk
    exact other_block g a3 (by decide) e
  · obtain ⟨arr, g⟩ := hk
    exact other_block g a3 (by decide) e
theorem OwnL.takeN {a n cap : Nat} {g : Option Addr} {xs : List ByteArray} (h : Nms B W (.slice g n cap) xs) (ha : a ≤ xs.length) (hpos : 0 < xs.length) : Nms B W (.slice g a cap) (xs.take a) := by
  obtain ⟨css, h1, h2, h3, h4⟩ := h
  rcases h4 with ⟨hv, hz⟩ | ⟨gb, cp, cur, hv, b1, b2, b3, b4, b5, b6⟩
  · omega
  · injection hv with e1 e2 e3
    subst e1; subst e2; subst e3
    have hl1 : ∀ (i : Nat) (cs : List Value), css[i]? = some cs → cs.length = 1 := fun i cs hi => by
      have hil : i < xs.length := by have := (List.getElem?_eq_some_iff.1 hi).1; omega
      exact (h2 i cs _ hi (List.getElem?_eq_getElem hil)).1
    have hfl := flatten_len hl1
    have hlt : ∀ (i : Nat) (cs : List Value), (css.take a)[i]? = some cs → cs.length = 1 := fun i cs hi => by
      have hil : i < a := by
        have := (List.getElem?_eq_some_iff.1 hi).1
        rw [List.length_take] at this
        omega
      rw [List.getElem?_take, if_pos hil] at hi
      exact hl1 i cs hi
    have hfl2 := flatten_len hlt
    have hpre : (css.take a).flatten = css.flatten.take a := by
      have e : css.flatten = (css.take a).flatten ++ (css.drop a).flatten := by rw [← List.flatten_append, List.take_append_drop]
      rw [e]
      have hla : (css.take a).flatten.length = a := by rw [hfl2, List.length_take]; omega
      exact (List.take_left' hla).symm
    refine ⟨css.take a, by rw [List.length_take, List.length_take]; omega, fun i cs x hi hx => ?_, ?_, ?_⟩
    · have hil : i < a := by
        have := (List.getElem?_eq_some_iff.1 hi).1
        rw [List.length_take] at this
        omega
      rw [List.getElem?_take, if_pos hil] at hi hx
      exact h2 i cs x hi hx
    · rw [hfl2, List.length_take, List.length_take]
      omega
    · refine .inr ⟨gb, cap, cur, ?_, b1, b2, ?_, b4, b5, ?_⟩
      · rw [List.length_take, Nat.min_eq_left ha]
      · rw [List.length_take]; omega
      · rw [hpre, ← b6, List.take_take, List.length_take]
        congr 1
        omega
/-- A part more. -/
theorem TSt.outPush (h : TSt B W lb sb ib ob lmb imb T sv ov) {P : List ByteArray} (o : OwnL 1 B 37 (RLs sv) w' ov' (T.out ++ [P])) (g : W.grownBy w' ov.ownBlock) (sn : SameOrNew W ov ov') :
    w'.cell? ⟨ob, 0, none⟩ = some ov ∧ w'.frozen? ⟨ob, 0, none⟩ = false ∧ TSt B (w'.setCell ⟨ob, 0, none⟩ ov') lb sb ib ob lmb imb { T with out := T.out ++ [P] } sv ov' ∧ Only (fun k => k = ob ∨ ov.ownBlock = some k) W (w'.setCell ⟨ob, 0, none⟩ ov') := by
  have O1 : Only (fun k => ov.ownBlock = some k) W w' := Only.grown g fun k hk => hk
  have off : ∀ {k : Nat} {arr : Array Value} {t : TypeId}, W.heap[k]? = some (.cells arr t (0, 0)) → t ≠ 37 → ¬ ov.ownBlock = some k := fun hk ht e => by
    obtain ⟨arr, g⟩ := h.out.typed _ e
    exact other_block hk g ht rfl
  have a1 := O1.keeps h.lowc (off h.lowc (by decide))
  have a2 := O1.keeps h.innc (off h.innc (by decide))
  have a3 := O1.keeps h.stkc (fun e => h.sep _ e rfl)
  have a4 := O1.keeps h.outc (off h.outc (by decide))
  have m1 := h.lowm.kept (O1.block lmb h.lowm.lt fun e => by obtain ⟨arr, g⟩ := h.out.typed _ e; exact map_ne h.lowm g rfl)
  have m2 := h.innm.kept (O1.block imb h.innm.lt fun e => by obtain ⟨arr, g⟩ := h.out.typed _ e; exact map_ne h.innm g rfl)
  have s1 : Nms B w' sv T.stk := h.stk.only (fun _ _ h => h) O1 fun k hk e => by
    obtain ⟨arr, g⟩ := h.stk.typed k hk
    exact off g (by decide) e
  have O2 : Only (fun k => k = ob) w' (w'.setCell ⟨ob, 0, none⟩ ov') := Only.set _ _ rfl
  have hsb := h.sbW
  refine ⟨cell_at a4 0 _ rfl, free_at a4 0, ⟨O2.keeps a1 (other_block a1 a4 (by decide)), m1.kept (O2.block lmb m1.lt (map_ne m1 a4)), O2.keeps a2 (other_block a2 a4 (by decide)), m2.kept (O2.block imb m2.lt (map_ne m2 a4)), O2.keeps a3 (other_block a3 a4 (by decide)), s1.only (fun _ _ h => h) O2 fun k hk e => ?_, set_block a4, outs_move o O2 (fun k hk e => ?_) (fun k hk _ e => ?_) (fun k _ e => e), fun k hk => ?_, h.lows, h.inns, h.stks, h.ne, h.lt⟩, (O1.mono fun k _ hk => .inr hk).trans (O2.mono fun k _ hk => .inl hk)⟩
  · obtain ⟨arr, g⟩ := s1.typed k hk
    exact other_block g a4 (by decide) e
  · obtain ⟨arr, g⟩ := o.typed k hk
    exact other_block g a4 (by decide) e
  · obtain ⟨arr, g⟩ := hk
    exact other_block g a4 (by decide) e
  · rcases sn with e | e
    · rw [e] at hk
      exact h.sep k hk
    · have := e k hk
      omega
end
theorem GrI.only {B mb : Nat} {W w' : World} {G : Gr} {S : Nat → Prop} (h : GrI B W mb G) (hO : Only S W w') (hm : ¬ S mb) (hS : ∀ k arr, W.heap[k]? = some (.cells arr 9 (0, 0)) → ¬ S k) : GrI B w' mb G := by
  obtain ⟨vs, h1, h2, h3, h4, h5, h6⟩ := h
  exact ⟨vs, h1, h2.kept (hO.block mb h2.lt hm), fun i v x hv hx => (h3 i v x hv hx).only (fun _ _ h => h) hO (fun k hk => by
    obtain ⟨arr, g⟩ := (h3 i v x hv hx).typed k hk
    exact hS k arr g), h4, h5, h6⟩
/-- What g[s] gives, in any world in which the graph still stands. -/
theorem GrI.lookO {B mb : Nat} {W : World} {G : Gr} {S : Nat → Prop} (h : GrI B W mb G) {s : ByteArray} (hs : s.size ≤ 140737488351232) (hm : ¬ S mb) : ∃ v, Nms B W v (sucs G s) ∧ (∀ x ∈ sucs G s, x.size ≤ 140737488351232) ∧ ∀ W', Only S W W' → (Instr.lookup tG (.map (some mb)) (.string s) false).run Tryz.prog W' = .ok v W' := by
  have hz := h.sizes
  have hn := h.nodup
  obtain ⟨vs, h1, h2, h3, h4, h5, h6⟩ := h
  by_cases e : s ∈ G.names
  · obtain ⟨i, S', hi⟩ := names_at e
    have hlt := (List.getElem?_eq_some_iff.1 hi).1
    obtain ⟨v, hv⟩ : ∃ v, vs[i]? = some v := ⟨_, List.getElem?_eq_getElem (by omega)⟩
    have hg := getE_at h2.nodup (zip_at hi hv)
    refine ⟨v, by rw [sucs_at hn hi]; exact h3 i v _ hv hi, by rw [sucs_at hn hi]; exact (h5 _ (List.mem_of_getElem? hi)).2, fun W' hW => ?_⟩
    have := ((h2.kept (hW.block mb h2.lt hm)).look (t := tG) keyStr (zip_ok hz) Tryz.underlying73 zeroSl (x := s) (Nat.le_trans hs (by unfold maxLen; omega))).1
    rw [show getE (G.names.zip vs) s = some v from hg] at this
    exact this
  · have hg : getE (G.names.zip vs) s = none := getE_none fun p hp he => e (by rw [← he]; exact (List.of_mem_zip hp).1)
    refine ⟨.slice none 0 0, by rw [sucs_none e]; exact OwnL.nil, by rw [sucs_none e]; exact fun x hx => (by cases hx), fun W' hW => ?_⟩
    have := ((h2.kept (hW.block mb h2.lt hm)).look (t := tG) keyStr (zip_ok hz) Tryz.underlying73 zeroSl (x := s) (Nat.le_trans hs (by unfold maxLen; omega))).1
    rw [hg] at this
    exact this
end Go.Proofs.YtackadhamghblaaGreat
/- depend.graph.parts: visit. -/
namespace Go.Proofs.YtackadhamghblaaGreat
open Go.RowKit Go.WideMaps Go.Maps
set_option linter.unusedSimpArgs false
set_option linter.unusedVariables false

def tfoot (w0 : World) (sb ob lmb imb : Nat) (k : Nat) : Prop := k = sb ∨ k = ob ∨ k = lmb ∨ k = imb ∨ w0.heap.size ≤ k
def cbT (lb sb gb ib vb ob : Nat) : Value := .func (.func 39) #[] #[.pointer (some ⟨lb, 0, none⟩), .pointer (some ⟨sb, 0, none⟩), .pointer (some ⟨gb, 0, none⟩), .pointer (some ⟨ib, 0, none⟩), .pointer (some ⟨vb, 0, none⟩), .pointer (some ⟨ob, 0, none⟩)]
structure VisC (w0 : World) (Bg mb : Nat) (G : Gr) (lb sb gb ib vb ob lmb imb : Nat) : Prop where
  gr : GrI Bg w0 mb G
  gc : w0.heap[gb]? = some (.cells #[.map (some mb)] tG (0, 0))
  vc : w0.heap[vb]? = some (.cells #[cbT lb sb gb ib vb ob] 102 (0, 0))
  ng : ¬ tfoot w0 sb ob lmb imb gb
  nv : ¬ tfoot w0 sb ob lmb imb vb
  nm : ¬ tfoot w0 sb ob lmb imb mb
  ns : ∀ k arr, w0.heap[k]? = some (.cells arr 9 (0, 0)) → ¬ tfoot w0 sb ob lmb imb k
def VisOk (w0 : World) (G : Gr) (lb sb gb ib vb ob lmb imb n : Nat) : Prop :=
  ∀ (T : TS) (s : ByteArray) (T' : TS) (m : Nat), visitT G n T s = some (T', m) → ∀ (W : World) (sv ov : Value), Only (tfoot w0 sb ob lmb imb) w0 W → TSt w0.heap.size W lb sb ib ob lmb imb T sv ov → s.size ≤ 140737488351232 →
    Calls Tryz.prog 39 #[.string s, .pointer (some ⟨lb, 0, none⟩), .pointer (some ⟨sb, 0, none⟩), .pointer (some ⟨gb, 0, none⟩), .pointer (some ⟨ib, 0, none⟩), .pointer (some ⟨vb, 0, none⟩), .pointer (some ⟨ob, 0, none⟩)] W
      fun e W' => e = .returned (.int .i64 (m : Nat)) ∧ Only (tfoot w0 sb ob lmb imb) w0 W' ∧ ∃ sv' ov', TSt w0.heap.size W' lb sb ib ob lmb imb T' sv' ov'
theorem encN_len (l : Nums) : (encN l).length = l.length := by unfold encN; rw [List.length_map]
theorem TSt.low_len {B lb sb ib ob lmb imb : Nat} {W : World} {T : TS} {sv ov : Value} (h : TSt B W lb sb ib ob lmb imb T sv ov) : (Builtin.len_ #[tVm] 3 #[.map (some lmb)]).run Tryz.prog W = .ok (.int .i64 (T.low.length : Nat)) W := by
  have := h.lowm.len (ty := 3) Tryz.underlying75
  rw [encN_len] at this
  exact this
theorem TS.fine_iff {T : TS} (h : T.fine = true) : T.low.length ≤ 100000000 ∧ T.stk.length ≤ 100000000 ∧ T.inn.length ≤ 100000000 ∧ T.out.length ≤ 100000000 := by
  unfold TS.fine at h
  simp only [Bool.and_eq_true, decide_eq_true_eq] at h
  exact ⟨h.1.1.1, h.1.1.2, h.1.2, h.2⟩
theorem totS : TotC cmpS := ⟨ordS.zero, ordS.swap, fun x y z h1 h2 => ordS.lt h1 (by omega)⟩
theorem up_nodup {l : List ByteArray} (h : Up cmpS l) : l.Nodup := List.Pairwise.imp (fun {x y} hlt e => by subst e; exact totS.irr x hlt) h
theorem infoTL : (Tryz.prog.info? 37).map (fun i => (i.zero, i.size, i.bytes)) = some (some (.slice none 0 0), 1, 24) := by kernel_rfl
theorem infoTLs : (Tryz.prog.info? 76).map (·.size) = some 1 := by kernel_rfl
theorem lkN_app {l : Nums} {m : List ByteArray} {s : ByteArray} {n : Nat} (h1 : lkN l s = none) (h2 : s ∉ m) : lkN (l ++ m.map fun t => (t, n)) s = none := by
  unfold lkN
  rw [Option.map_eq_none_iff, List.find?_eq_none]
  intro x hx
  rw [decide_eq_true_eq]
  rcases List.mem_append.1 hx with hx | hx
  · exact lkN_none h1 x hx
  · obtain ⟨t, ht, rfl⟩ := List.mem_map.1 hx
    exact fun e => h2 (by rw [← e]; exact ht)
theorem llOne {sv v : Value} {P : List ByteArray} {n : Nat} (w : World) (e : TypeId) (h : Nms n w v P) (hs : ∀ k, v.ownBlock = some k → sv.ownBlock ≠ some k) : SlRep 1 1 (RLs sv) (w.alloc (.cells #[v] e)) (.slice (some ⟨w.heap.size, 0, none⟩) 1 1) [P] :=
  slOne w [v] P e rfl ⟨v, rfl, (h.fut RNm.stays (Fut.alloc _ _)).base (Nat.zero_le _), hs⟩
theorem sl_drop {M a cap : Nat} {W : World} {g : Nat} {xs : List ByteArray} (h : SlRep 1 M RNm W (.slice (some ⟨g, 0, none⟩) xs.length cap) xs) (ha : a ≤ xs.length) : SlRep 1 M RNm W (.slice (some ⟨g, a, none⟩) (xs.drop a).length (cap - a)) (xs.drop a) := by
  obtain ⟨A, c, hv, h1, h2, h3⟩ := h
  injection hv with e1 _ e3
  subst e1; subst e3
  refine ⟨_, _, rfl, by rw [List.length_drop]; omega, by omega, fun i x hx => ?_⟩
  rw [List.getElem?_drop] at hx
  obtain ⟨b, off, cs, hA, hl, hc, hr⟩ := h3 (a + i) x hx
  injection hA with hA
  injection hA with e1 e2 _
  subst e1; subst e2
  refine ⟨_, a, cs, rfl, hl, fun j c hj => ?_, hr⟩
  have := hc j c hj
  rwa [show 0 + ((a + i) * 1 + j) = a + (i * 1 + j) by omega] at this
set_option maxHeartbeats 8000000 in
set_option maxRecDepth 100000 in
theorem visit_step {w0 : World} {Bg mb : Nat} {G : Gr} {lb sb gb ib vb ob lmb imb : Nat} (C : VisC w0 Bg mb G lb sb gb ib vb ob lmb imb) (n : Nat) (IH : VisOk w0 G lb sb gb ib vb ob lmb imb n) : VisOk w0 G lb sb gb ib vb ob lmb imb (n + 1) := by
  intro T s T' m hv W sv ov hO h hs
  unfold visitT at hv
  by_cases hg : T.fine = true ∧ lkN T.low s = none
  rotate_left
  · rw [if_neg hg] at hv; cases hv
  rw [if_pos hg] at hv
  obtain ⟨hfine, hnone⟩ := hg
  obtain ⟨b1, b2, b3, b4⟩ := TS.fine_iff hfine
  obtain ⟨R, hR⟩ : ∃ R, (sucs G s).foldl (stepT (visitT G n)) (some ({ T with low := T.low ++ [(s, T.low.length + 1)], stk := T.stk ++ [s] }, T.low.length + 1)) = R := ⟨_, rfl⟩
  rw [hR] at hv
  cases R with
  | none => cases hv
  | some R =>
  obtain ⟨T2, lst⟩ := R
  replace hv : (if lst < T.low.length + 1 then (match lkN T2.low s with
    | none => none
    | some _ => some ({ T2 with low := putN T2.low s lst }, lst)) else finT T2 s (T.low.length + 1)) = some (T', m) := hv
  obtain ⟨gv, hgN, hgs, hgL⟩ := C.gr.lookO hs C.nm
  obtain ⟨Ag, cg, rfl, hgl1, hgl2⟩ := hgN.rep.form
  have x0 := cell_at h.lowc 0 (.map (some lmb)) rfl
  have x1 := h.low_len
  obtain ⟨w1, hr1, h1, o1⟩ := h.lowPush hs hnone (T.low.length + 1)
  have o1' : Only (tfoot w0 sb ob lmb imb) w0 w1 := hO.trans (o1.mono fun k _ hk => .inr (.inr (.inl hk)))
  have x2 := cell_at h1.stkc 0 sv rfl
  have hcast : ((T.low.length + 1 : Nat) : Int) = (T.low.length : Int) + 1 := by omega
  rw [hcast] at hr1
  have H1 := Lib.hid h1
  have O1 := Lib.hid o1'
  have hs1 := o1'.size
  have HC := Lib.hid C
  have HIH := Lib.hid IH
  have hR' := Lib.hid hR
  have hv' := Lib.hid hv
  have hgN' := Lib.hid hgN
  have hgs' := Lib.hid hgs
  have hgL' := Lib.hid hgL
  clear h1 o1 o1' h C IH hR hv hgN hgs hgL hO hcast hnone hfine
  go_enter Tryz.func39, Tryz.ntmps39
  go_wp2_with (first | (at_builtin; refine wpList_append_LB (R := RNm) (B := w0.heap.size) (M := 1) (xs := T.stk) (ys := [s]) (e := 9) (by go_simp) _ _ tVl' rfl Tryz.underlying37 (.string ⟨#[]⟩) 16 infoNm rfl (by decide) RNm.one RNm.keeps rfl rfl (H1.out.stk.fut RNm.stays (Fut.alloc _ _)) (nmOne _ _ _) ?l3 ?l4 ?b3 ?k3))
  case l3 => simp [maxLen]; omega
  case l4 => simp; omega
  case b3 => simp; omega
  case k3 =>
  intro v' w' o' g' sn'
  have F0 := Fut.alloc w1 (.cells #[.string s] 9)
  have h1a := H1.out.fut F0
  obtain ⟨c1, c2, hT5, hO5⟩ := h1a.setStk (Only.grown g' fun k hk => hk) (fun k hk e => by
    rcases sn' with e' | e'
    · rw [e'] at e; exact e
    · have := e' k e; omega) o' (fun x hx => by
    rcases List.mem_append.1 hx with hx | hx
    · exact h1a.stks x hx
    · rw [List.mem_singleton] at hx; subst hx; exact hs)
  have hown1 : ∀ k, sv.ownBlock = some k → w0.heap.size ≤ k := fun k hk => (H1.out.stk.block k hk).1
  have O5 : Only (tfoot w0 sb ob lmb imb) w0 (w'.setCell ⟨sb, 0, none⟩ v') := (O1.out.trans (Only.fut F0)).trans (hO5.mono fun k _ hk => by
    rcases hk with hk | hk
    · exact .inl hk
    · exact .inr (.inr (.inr (.inr (hown1 k hk)))))
  obtain ⟨A8, c8, rfl, _, _⟩ := o'.rep.form
  rw [List.length_append, List.length_singleton] at hT5 O5 ⊢
  obtain ⟨w5, hw5⟩ : ∃ W, w'.setCell ⟨sb, 0, none⟩ (.slice A8 (T.stk.length + 1) c8) = W := ⟨_, rfl⟩
  rw [hw5] at hT5 O5
  have y1 := cell_at (O5.keeps HC.out.gc HC.out.ng) 0 (.map (some mb)) rfl
  have y2 := hgL'.out w5 O5
  have HT5 := Lib.hid hT5
  have HO5 := Lib.hid O5
  have hi2 := infoNms
  clear o' g' sn' h1a hO5 hT5 O5 F0 hown1
  go_wp2_with (first | (refine wpList_store_1 (wanted_none rfl _) _ _ rfl rfl rfl hi2 rfl c1 c2 hw5 ?_))
  clear hw5 c1 c2 y1 y2 x0 x1 x2 hr1
  obtain ⟨S, hS⟩ : ∃ S, sucs G s = S := ⟨_, rfl⟩
  rw [hS] at hR' hgN' hgs' hgl1 ⊢
  replace hS := Lib.hid hS
  obtain ⟨mine, hmine⟩ : ∃ x, T.low.length + 1 = x := ⟨_, rfl⟩
  rw [hmine] at hR' hv' HT5
  obtain ⟨T1, hT1⟩ : ∃ x, ({ T with low := T.low ++ [(s, mine)], stk := T.stk ++ [s] } : TS) = x := ⟨_, rfl⟩
  replace HT5 := Lib.hid (show TSt w0.heap.size w5 lb sb ib ob lmb imb T1 (.slice A8 (T.stk.length + 1) c8) ov by rw [← hT1]; exact HT5.out)
  rw [hT1] at hR'
  replace hT1 := Lib.hid hT1
  have hgl0 : S.length ≤ 9223372036854775807 := by unfold maxLen at hgl2; omega
  have hmI : ((T.low.length : Int) + 1) = (mine : Int) := by omega
  try rw [hmI]
  have hmb : mine ≤ 100000001 := by omega
  go_loopw [10, 36] (fun lm i wr => ∃ (k : Nat) (Tk : TS) (mk : Nat), k ≤ S.length ∧ i = .int .i64 k ∧ lm = .int .i64 (mk : Nat) ∧ Hid ((S.take k).foldl (stepT (visitT G n)) (some (T1, mine)) = some (Tk, mk)) ∧ Hid (Only (tfoot w0 sb ob lmb imb) w0 wr) ∧ Hid (∃ sv ov, TSt w0.heap.size wr lb sb ib ob lmb imb Tk sv ov)) (fun _ i _ => S.length - (intOf i).toNat)
  case atStart => exact ⟨0, T1, mine, Nat.zero_le _, rfl, by first | rfl | simp [hmI], Lib.hid rfl, HO5, Lib.hid ⟨_, _, HT5.out⟩⟩
  case round =>
    obtain ⟨k, Tk, mk, hk, rfl, rfl, hK, hOk, hTk⟩ := hrel
    by_cases hlt : k < S.length
    · have hltI : (k : Int) < S.length := by omega
      have e0 : (0 : Int) ≤ k ∧ (k : Int) < S.length := by omega
      obtain ⟨b', off, rfl, z0⟩ := nm_at hgN'.out.rep hlt
      obtain ⟨sv1, ov1, t1⟩ := hTk.out
      have z1 := hOk.out.cell z0 (by
        obtain ⟨arr, hty⟩ := hgN'.out.typed b' rfl
        exact HC.out.ns b' arr hty)
      have hnx := Lib.hid (show (S.take (k + 1)).foldl (stepT (visitT G n)) (some (T1, mine)) = stepT (visitT G n) (some (Tk, mk)) S[k] by rw [List.take_succ_eq_append_getElem hlt, List.foldl_append, hK.out]; rfl)
      obtain ⟨⟨Tn, mn⟩, hnext⟩ := fold_some hR'.out (k + 1)
      have hst := hnx.out.symm.trans hnext
      have htz := hgs'.out _ (List.getElem_mem hlt)
      generalize S[k] = t at *
      have l1 := (look_num t1.innm t1.inns htz).1
      have l2 := (look_num t1.lowm t1.lows htz).1
      have p1 := cell_at t1.innc 0 (.map (some imb)) rfl
      have p2 := cell_at t1.lowc 0 (.map (some lmb)) rfl
      unfold stepT at hst
      dsimp only at hst
      cases hi1 : lkN Tk.inn t with
      | some q =>
        rw [hi1] at l1 hst
        simp only [Option.some.injEq, Prod.mk.injEq] at hst
        obtain ⟨rfl, rfl⟩ := hst
        have HN := Lib.hid hnext
        clear hnext hi1 l2 p2 z0 htz t1 hnx
        go_wp2
        go_roundw
        case rel => exact ⟨k + 1, Tk, mk, by omega, by go_num, rfl, HN, hOk, hTk⟩
        case measure => simp [intOf] <;> omega
      | none =>
        rw [hi1] at l1 hst
        dsimp only at hst
        cases hi2' : lkN Tk.low t with
        | some q =>
          rw [hi2'] at l2 hst
          simp only [Option.some.injEq, Prod.mk.injEq] at hst
          obtain ⟨rfl, rfl⟩ := hst
          have HN := Lib.hid hnext
          clear hnext hi1 hi2' z0 htz t1 hnx
          go_wp2
          go_roundw
          case rel => exact ⟨k + 1, Tk, min mk q, by omega, by go_num, by simp; omega, HN, hOk, hTk⟩
          case measure => simp [intOf] <;> omega
        | none =>
          rw [hi2'] at l2 hst
          dsimp only at hst
          cases hvv : visitT G n Tk t with
          | none => rw [hvv] at hst; cases hst
          | some r =>
            obtain ⟨Tr, kr⟩ := r
            rw [hvv] at hst
            simp only [Option.some.injEq, Prod.mk.injEq] at hst
            obtain ⟨rfl, rfl⟩ := hst
            have HN := Lib.hid hnext
            have HI := Lib.hid (HIH.out Tk t Tr kr hvv wr sv1 ov1 hOk.out t1 htz)
            have p3 := cell_at (hOk.out.keeps HC.out.vc HC.out.nv) 0 (cbT lb sb gb ib vb ob) rfl
            unfold cbT at p3
            clear hnext hi1 hi2' hvv z0 htz t1 hnx
            go_wp2_with fail
            refine HI.out.mono ?_
            rintro e w6 ⟨rfl, hO6, hT6⟩
            replace hO6 := Lib.hid hO6
            replace hT6 := Lib.hid hT6
            clear HI
            go_wp2
            go_roundw
            case rel => exact ⟨k + 1, Tr, min mk kr, by omega, by go_num, by simp; omega, HN, hO6, hT6⟩
            case measure => simp [intOf] <;> omega
    · obtain rfl : k = S.length := by omega
      obtain ⟨wo, hwo⟩ : ∃ x, x = wr := ⟨_, rfl⟩
      subst hwo
      have hE := hK.out
      rw [List.take_length, hR'.out] at hE
      simp only [Option.some.injEq, Prod.mk.injEq] at hE
      obtain ⟨rfl, rfl⟩ := hE
      obtain ⟨sv1, ov1, t1⟩ := hTk.out
      have hvo := hv'.out
      clear hK hTk hR' hv'
      by_cases hlm : lst < mine
      · rw [if_pos hlm] at hvo
        have hlmI : (lst : Int) < (mine : Int) := by omega
        cases hl : lkN T2.low s with
        | none => rw [hl] at hvo; cases hvo
        | some q =>
          rw [hl] at hvo
          simp only [Option.some.injEq, Prod.mk.injEq] at hvo
          obtain ⟨rfl, rfl⟩ := hvo
          obtain ⟨w6, hr6, t6, o6⟩ := t1.lowPut hs hl lst
          have p2 := cell_at t1.lowc 0 (.map (some lmb)) rfl
          have O6 : Only (tfoot w0 sb ob lmb imb) w0 w6 := hOk.out.trans (o6.mono fun k _ hk => .inr (.inr (.inl hk)))
          have HD := Lib.hid (And.intro O6 t6)
          clear t6 o6 O6 t1 hl
          go_wp2
          go_ret
          exact ⟨rfl, HD.out.1, _, _, HD.out.2⟩
      · rw [if_neg hlm] at hvo
        have hlmI : ¬ (lst : Int) < (mine : Int) := by omega
        unfold finT at hvo
        cases hid : idxP s T2.stk with
        | none => rw [hid] at hvo; cases hvo
        | some a =>
          rw [hid] at hvo
          dsimp only at hvo
          by_cases hgd : T2.fine = true ∧ nodupB (T2.stk.drop a) = true ∧ ((T2.stk.drop a).any fun t => (lkN T2.inn t).isSome) = false
          rotate_left
          · rw [if_neg hgd] at hvo; cases hvo
          rw [if_pos hgd] at hvo
          simp only [Option.some.injEq, Prod.mk.injEq] at hvo
          obtain ⟨rfl, rfl⟩ := hvo
          obtain ⟨hf2, hnd, hany⟩ := hgd
          obtain ⟨d1, d2, d3, d4⟩ := TS.fine_iff hf2
          obtain ⟨ha1, ha2, ha3⟩ := idxP_some hid
          obtain ⟨As, cs, rfl, hsl1, hsl2⟩ := t1.stk.rep.form
          have hix := Lib.hid (index_any As cs T2.stk s a wo t1.stk.rep (by unfold maxLen; omega) hid)
          have p1 := cell_at t1.stkc 0 (.slice As T2.stk.length cs) rfl
          obtain ⟨g, rfl⟩ : ∃ g, As = some ⟨g, 0, none⟩ := by
            obtain ⟨css, q1, q2, q3, q4⟩ := t1.stk
            rcases q4 with ⟨q5, q6⟩ | ⟨g, _, _, q5, _⟩
            · omega
            · injection q5 with q5 _ _
              exact ⟨g, q5⟩
          have HT1 := Lib.hid t1
          have haI : (a : Int) ≤ (T2.stk.length : Int) := by omega
          have haI2 : (a : Int) ≤ (cs : Int) := by omega
          have haN : a ≤ cs := by omega
          have haN2 : a ≤ T2.stk.length := by omega
          have hcl : cs ≤ 9223372036854775807 := by unfold maxLen at hsl2; omega
          clear t1 hid
          go_wp2_with fail
          refine hix.out.mono ?_
          rintro e w6 ⟨rfl, hw6⟩
          go_wp2_with fail
          refine (values_any (some ⟨g, a, none⟩) (T2.stk.length - a) (cs - a) wo).mono ?_
          rintro e w7 ⟨rfl, rfl⟩
          have hbx := heap_alloc_new wo (.cells #[.slice (some ⟨g, a, none⟩) (T2.stk.length - a) (cs - a)] 37)
          have F7 := Fut.alloc wo (.cells #[.slice (some ⟨g, a, none⟩) (T2.stk.length - a) (cs - a)] 37)
          have hz7 : (wo.alloc (.cells #[.slice (some ⟨g, a, none⟩) (T2.stk.length - a) (cs - a)] 37)).heap.size = wo.heap.size + 1 := by simp
          have hdl : (T2.stk.drop a).length = T2.stk.length - a := List.length_drop
          have HS := Lib.hid (sortV_any wo.heap.size (some ⟨g, a, none⟩) (cs - a) (T2.stk.drop a) (wo.alloc (.cells #[.slice (some ⟨g, a, none⟩) (T2.stk.length - a) (cs - a)] 37)) (sl_drop (HT1.out.stk.fut RNm.stays F7).rep haN2) (by unfold maxLen; omega) (by rw [hdl]; exact cell_at hbx 0 _ rfl) (by omega) (nodupB_iff _ hnd))
          obtain ⟨P, hP⟩ : ∃ P, sortU cmpS (T2.stk.drop a) = P := ⟨_, rfl⟩
          rw [hP] at HS
          replace hP := Lib.hid hP
          clear hbx
          go_wp2_with fail
          refine HS.out.mono ?_
          rintro e w8 ⟨v8, rfl, hv8, f8⟩
          rw [hz7] at hv8
          have F8 := F7.trans f8
          have hgr := HT1.out.stk.block g rfl
          obtain ⟨c1, c2, hT9, hO9⟩ := HT1.out.setStk (sv' := .slice (some ⟨g, 0, none⟩) a cs) (Only.fut F8) (fun k _ e => e) (OwnL.takeN (HT1.out.stk.fut RNm.stays F8) haN2 (by omega)) (fun x hx => HT1.out.stks x (List.mem_of_mem_take hx))
          have p2 := cell_at (F8.block HT1.out.stkc) 0 (.slice (some ⟨g, 0, none⟩) T2.stk.length cs) rfl
          obtain ⟨w9, hw9⟩ : ∃ W, w8.setCell ⟨sb, 0, none⟩ (.slice (some ⟨g, 0, none⟩) a cs) = W := ⟨_, rfl⟩
          have O9 : Only (tfoot w0 sb ob lmb imb) w0 w9 := by
            rw [← hw9]
            exact hOk.out.trans (hO9.mono fun k _ hk => by
              rcases hk with hk | hk
              · exact .inl hk
              · exact .inr (.inr (.inr (.inr (HT1.out.stk.block k hk).1))))
          have hv9 : Nms (wo.heap.size + 1) w9 v8 P := by
            rw [← hw9]
            exact hv8.only (fun _ _ h => h) (Only.set (S := fun k => k = sb) ⟨sb, 0, none⟩ _ rfl) fun k hk e => by
              have := (hv8.block k hk).1
              have := HT1.out.sbW
              omega
          rw [hw9] at hT9
          obtain ⟨AP, cP, rfl, hPl, hPc⟩ := hv9.rep.form
          have HT9 := Lib.hid hT9
          have HO9 := Lib.hid O9
          have HV9 := Lib.hid hv9
          have hi2 := infoNms
          clear hv8 f8 F7 F8 hO9 hT9 O9 HS hz7 hv9
          go_wp2_with (first | (refine wpList_store_1 (wanted_none rfl _) _ _ rfl rfl rfl hi2 rfl c1 c2 hw9 ?_))
          clear hw9 c1 c2 p1 p2
          obtain ⟨no, hno⟩ : ∃ x, T2.out.length = x := ⟨_, rfl⟩
          replace hno := Lib.hid hno
          have hPn := Lib.hid (show ∀ x ∈ P, x ∈ T2.stk.drop a from fun x hx => by
            rw [← hP.out] at hx
            exact ((sortU_spec totS _).2 x).1 hx)
          have hPu := Lib.hid (show P.Nodup from by
            rw [← hP.out]
            exact up_nodup (sortU_spec totS _).1)
          have hPs := Lib.hid (show ∀ x ∈ P, x.size ≤ 140737488351232 from fun x hx => HT1.out.stks x (List.mem_of_mem_drop (hPn.out x hx)))
          have hPi := Lib.hid (show ∀ x ∈ P, lkN T2.inn x = none from fun x hx => by
            have h9 := List.any_eq_false.1 hany x (hPn.out x hx)
            cases hq : lkN T2.inn x with
            | none => rfl
            | some q => rw [hq] at h9; exact absurd rfl h9)
          have hPl0 : P.length ≤ 9223372036854775807 := by unfold maxLen at hPc; omega
          have hPr := Lib.hid (show ∀ W, Only (fun k => k = imb) w9 W → Nms (wo.heap.size + 1) W (.slice AP P.length cP) P from fun W hW => HV9.out.only (fun _ _ h => h) hW fun k hk e => by
            obtain ⟨arr, hty⟩ := HV9.out.typed k hk
            exact (HT9.out.noMap hty).2 e)
          have hq9 := Lib.hid (cell_at HT9.out.outc 0 ov1 rfl)
          obtain ⟨Ao, co, rfl, hol1, hol2⟩ := HT9.out.out.rep.form
          clear hany hnd hf2 hix
          go_wp2_with fail
          go_loopw [83] (fun i wi => ∃ k : Nat, k ≤ P.length ∧ i = .int .i64 k ∧ Hid (Only (tfoot w0 sb ob lmb imb) w0 wi) ∧ Hid (Only (fun k => k = imb) w9 wi) ∧ Hid (TSt w0.heap.size wi lb sb ib ob lmb imb { T2 with stk := T2.stk.take a, inn := T2.inn ++ (P.take k).map (fun t => (t, no)) } (.slice (some ⟨g, 0, none⟩) a cs) (.slice Ao T2.out.length co))) (fun i _ => P.length - (intOf i).toNat)
          case atStart => exact ⟨0, Nat.zero_le _, rfl, HO9, Lib.hid (Only.refl _), Lib.hid (by have := HT9.out; rw [List.take_zero, List.map_nil, List.append_nil]; exact this)⟩
          case round =>
            obtain ⟨k, hk, rfl, hOi, hOk9, hTi⟩ := hrel
            by_cases hlt : k < P.length
            · have hltI : (k : Int) < P.length := by omega
              have e0 : (0 : Int) ≤ k ∧ (k : Int) < P.length := by omega
              obtain ⟨b', off, rfl, z0⟩ := nm_at (hPr.out wr hOk9.out).rep hlt
              have hts := hPs.out _ (List.getElem_mem hlt)
              have hlk : lkN (T2.inn ++ (P.take k).map (fun t => (t, no))) P[k] = none := lkN_app (hPi.out _ (List.getElem_mem hlt)) (fun hx => by
                obtain ⟨j, hj, he⟩ := List.mem_take_iff_getElem.1 hx
                have := (List.getElem_inj hPu.out).1 he
                omega)
              have hnx := Lib.hid (show T2.inn ++ (P.take (k + 1)).map (fun t => (t, no)) = (T2.inn ++ (P.take k).map (fun t => (t, no))) ++ [(P[k], no)] by rw [List.take_succ_eq_append_getElem hlt, List.map_append, List.append_assoc]; rfl)
              obtain ⟨w10, hr10, t10, o10⟩ := hTi.out.innPush hts hlk no
              have q1 := cell_at hTi.out.innc 0 (.map (some imb)) rfl
              have q2 := cell_at hTi.out.outc 0 (.slice Ao T2.out.length co) rfl
              rw [hno.out] at q2
              have HO10 := Lib.hid (hOi.out.trans (o10.mono fun k _ hk => .inr (.inr (.inr (.inl hk)))))
              have HK10 := Lib.hid (hOk9.out.trans o10)
              have HT10 := Lib.hid (show TSt w0.heap.size w10 lb sb ib ob lmb imb { T2 with stk := T2.stk.take a, inn := T2.inn ++ (P.take (k + 1)).map (fun t => (t, no)) } (.slice (some ⟨g, 0, none⟩) a cs) (.slice Ao T2.out.length co) from by rw [hnx.out]; exact t10)
              clear hlk t10 o10 hts
              generalize P[k] = t at *
              go_wp2
              go_roundw
              case rel => exact ⟨k + 1, by omega, by go_num, HO10, HK10, HT10⟩
              case measure => simp [intOf] <;> omega
            · obtain rfl : k = P.length := by omega
              rw [List.take_length] at hTi
              have q2 := cell_at hTi.out.outc 0 (.slice Ao T2.out.length co) rfl
              have hvP := hPr.out wr hOk9.out
              have hgb := hgr.2
              have hsep : ∀ k, (Value.slice AP P.length cP).ownBlock = some k → (Value.slice (some ⟨g, 0, none⟩) a cs).ownBlock ≠ some k := fun k hk e => by
                have h1 := (hvP.block k hk).1
                injection e with e
                have h2 : g = k := e
                omega
              have HvP := Lib.hid hvP
              have HTi := Lib.hid hTi.out
              have hziw := hOi.out.size
              clear hvP
              go_wp2_with (first | (at_builtin; refine wpList_append_LB (R := RLs (.slice (some ⟨g, 0, none⟩) a cs)) (B := w0.heap.size) (M := 1) (xs := T2.out) (ys := [P]) (e := 37) (by go_simp) _ _ tLL rfl Tryz.underlying76 (.slice none 0 0) 24 infoTL rfl (by decide) RLs.one RLs.keeps rfl rfl (HTi.out.out.fut RLs.stays (Fut.alloc _ _)) (llOne _ _ HvP.out hsep) ?l4 ?m4 ?b4 ?k4))
              case l4 => simp [maxLen]; omega
              case m4 => simp; omega
              case b4 => simp; omega
              case k4 =>
              intro v' w' o' g' sn'
              have F11 := Fut.alloc wr (.cells #[.slice AP P.length cP] 37)
              obtain ⟨c1, c2, hT12, hO12⟩ := (HTi.out.fut F11).outPush o' g' sn'
              obtain ⟨A9, c9, rfl, _, _⟩ := o'.rep.form
              rw [List.length_append, List.length_singleton] at hT12 hO12 ⊢
              obtain ⟨w12, hw12⟩ : ∃ W, w'.setCell ⟨ob, 0, none⟩ (.slice A9 (T2.out.length + 1) c9) = W := ⟨_, rfl⟩
              rw [hw12] at hT12 hO12
              have O12 : Only (tfoot w0 sb ob lmb imb) w0 w12 := (hOi.out.trans (Only.fut F11)).trans (hO12.mono fun k _ hk => by
                rcases hk with hk | hk
                · exact .inr (.inl hk)
                · exact .inr (.inr (.inr (.inr (HTi.out.out.block k hk).1))))
              have HFin := Lib.hid (show Only (tfoot w0 sb ob lmb imb) w0 w12 ∧ ∃ sv' ov', TSt w0.heap.size w12 lb sb ib ob lmb imb { T2 with stk := T2.stk.take a, inn := T2.inn ++ (sortU cmpS (T2.stk.drop a)).map (fun t => (t, T2.out.length)), out := T2.out ++ [sortU cmpS (T2.stk.drop a)] } sv' ov' from ⟨O12, _, _, by rw [hP.out, hno.out]; exact hT12⟩)
              have hi3 := infoTLs
              clear o' g' sn' hT12 hO12 O12 F11
              go_wp2_with (first | (refine wpList_store_1 (wanted_none rfl _) _ _ rfl rfl rfl hi3 rfl c1 c2 hw12 ?_))
              clear hw12 c1 c2
              go_wp2
              go_ret
              exact ⟨rfl, HFin.out⟩
theorem visit_any {w0 : World} {Bg mb : Nat} {G : Gr} {lb sb gb ib vb ob lmb imb : Nat} (C : VisC w0 Bg mb G lb sb gb ib vb ob lmb imb) : ∀ n, VisOk w0 G lb sb gb ib vb ob lmb imb n
  | 0 => fun T s T' m hv => by unfold visitT at hv; cases hv
  | n + 1 => visit_step C n (visit_any C n)
end Go.Proofs.YtackadhamghblaaGreat
