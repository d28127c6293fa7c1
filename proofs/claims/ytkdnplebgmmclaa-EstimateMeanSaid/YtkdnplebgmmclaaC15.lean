/- Frame, Bytes, Digits, Letter, NameRef, Build, Quote, Quoted, Show, TwinT, Read0, Read1, There0, TwinG -/
import Derived.Laws.RangeAny
import Derived.Lib.AppendStr
import Derived.Laws.CopyRow
import Derived.Laws.IdiomStrings
import Derived.OneCell
import Derived.Lib.ItoaNum
import Derived.Lib.Builder
import Derived.Lib.AppendIntMem
import Derived.Lib.LaidTab
import Derived.Lib.LaidU8
import Derived.Lay
import Derived.Lib.ParseIntB
import Derived.Lib.ParseIntBTie
import Derived.Test.YtkdnplebgmmclaaC14
/-
  What a call changes among blocks of its own: all but a few blocks are as they were. copy out of a string; a step of a range over a string wherever its iterator lies. Generic; no program.
-/
namespace Go.Proofs.Ytkdnplebgmmclaa
open Go.RowKit
set_option linter.unusedSimpArgs false
set_option linter.unusedVariables false

/-- Every block that was there is as it was, but for these. -/
def OnlyF (l : List Nat) (w w' : World) : Prop :=
  w.heap.size ≤ w'.heap.size ∧ (∀ k, k < w.heap.size → k ∉ l → w'.heap[k]? = w.heap[k]?) ∧ ∀ B, B ≤ w.heap.size → (∀ g ∈ l, B ≤ g) → Below B w w'
theorem OnlyF.fut {l : List Nat} {w w' : World} (h : Fut w w') : OnlyF l w w' := ⟨h.size, fun k hk _ => Below.block h k hk, fun B hB _ => Below.mono h hB⟩
theorem OnlyF.refl (l : List Nat) (w : World) : OnlyF l w w := .fut (.refl w)
theorem OnlyF.trans {l : List Nat} {a b c : World} (h : OnlyF l a b) (k : OnlyF l b c) : OnlyF l a c :=
  ⟨Nat.le_trans h.1 k.1, fun i hi hl => (k.2.1 i (Nat.lt_of_lt_of_le hi h.1) hl).trans (h.2.1 i hi hl), fun B hB hl => (h.2.2 B hB hl).trans (k.2.2 B (Nat.le_trans hB h.1) hl)⟩
theorem OnlyF.more {l m : List Nat} {w w' : World} (h : OnlyF l w w') (hl : ∀ k ∈ l, k ∈ m) : OnlyF m w w' :=
  ⟨h.1, fun k hk hm => h.2.1 k hk fun hk' => hm (hl k hk'), fun B hB hm => h.2.2 B hB fun g hg => hm g (hl g hg)⟩
theorem OnlyF.set {l : List Nat} (w : World) (b : Nat) (u : Value) (hb : b ∈ l) : OnlyF l w (w.setCell ⟨b, 0, none⟩ u) :=
  ⟨by simp, fun k _ hk => Below.heap_setCell _ _ _ _ (fun e => hk (by have : k = b := e; rw [this]; exact hb)), fun B hB hl => (Below.refl B w).setCell (p := ⟨b, 0, none⟩) (hl b hb) u⟩
theorem OnlyF.setP {l : List Nat} (w : World) (p : Addr) (u : Value) (hb : p.block ∈ l) : OnlyF l w (w.setCell p u) :=
  ⟨by simp, fun k _ hk => Below.heap_setCell _ _ _ _ (fun e => hk (by rw [show k = p.block from e]; exact hb)), fun B hB hl => (Below.refl B w).setCell (p := p) (hl p.block hb) u⟩
theorem OnlyF.row {l : List Nat} (w : World) (g : Nat) (cs : Array Value) (hb : g ∈ l) : OnlyF l w (w.setRow g cs) :=
  ⟨by simp [World.setRow], fun k _ hk => setRow_other w g k cs (fun e => hk (e ▸ hb)), fun B hB hl => ⟨rfl, rfl, rfl, by simp [World.setRow], fun k hk => setRow_other w g k cs (by have := hl g hb; omega)⟩⟩
theorem OnlyF.at_ {l : List Nat} {w w' : World} (h : OnlyF l w w') {k : Nat} {o : Obj} (hk : w.heap[k]? = some o) (hl : k ∉ l) : w'.heap[k]? = some o := (h.2.1 k (lt_of_block hk) hl).trans hk
theorem OnlyF.below {l : List Nat} {w w' : World} (h : OnlyF l w w') {B : Nat} (hB : B ≤ w.heap.size) (hl : ∀ g ∈ l, B ≤ g) : Below B w w' := h.2.2 B hB hl

/-- A step of a range over a string, wherever the iterator lies. -/
def World.stepIter (w : World) (k : Nat) (s : ByteArray) (pos : Nat) : World := { w with heap := w.heap.setIfInBounds k (.stringIter s pos) }
theorem stepIter_at (w : World) (k : Nat) (s : ByteArray) (pos : Nat) (h : k < w.heap.size) : (World.stepIter w k s pos).heap[k]? = some (.stringIter s pos) := by
  unfold World.stepIter; simp [h]
theorem OnlyF.step {l : List Nat} (w : World) (k : Nat) (s : ByteArray) (pos : Nat) (hb : k ∈ l) : OnlyF l w (World.stepIter w k s pos) :=
  have e : ∀ j, j ≠ k → (World.stepIter w k s pos).heap[j]? = w.heap[j]? := fun j hj => by
    unfold World.stepIter
    simp [Array.getElem?_setIfInBounds, Ne.symm hj]
  ⟨by simp [World.stepIter], fun j _ hj => e j (fun h => hj (h ▸ hb)), fun B hB hl => ⟨rfl, rfl, rfl, by simp [World.stepIter], fun j hj => e j (by have := hl k hb; omega)⟩⟩
theorem run_next_at {P : Program} (w : World) (k : Nat) (s : ByteArray) (pos : Nat) (ty : TypeId) (hk : w.heap[k]? = some (.stringIter s pos)) (h : pos < s.size) :
    (Instr.next (.pointer (some ⟨k, 0, none⟩)) true ty).run P w = .ok (.tuple #[.bool true, .int .i64 pos, .int .i32 (Utf8.decode s pos).1]) (World.stepIter w k s (pos + (Utf8.decode s pos).2)) := by
  simp only [Instr.next, getObj, setObj, Sem.run_bind, Sem.run, hk, Result.andThen, h, if_true]
  simp [goInt, World.stepIter]
theorem run_next_stop {P : Program} (w : World) (k : Nat) (s : ByteArray) (pos : Nat) (ty : TypeId) (hk : w.heap[k]? = some (.stringIter s pos)) (h : ¬ pos < s.size) :
    (Instr.next (.pointer (some ⟨k, 0, none⟩)) true ty).run P w = .ok (.tuple #[.bool false]) w := by
  simp [Instr.next, getObj, Sem.run, hk, h]

/-- copy, out of a string. -/
theorem run_copy_str {P : Program} (w : World) (dT sT ty elem : TypeId) (g o dLen dCap : Nat) (dp : Option Addr) (s : ByteArray) (cur : Array Value) (t : TypeId)
    (hu : P.underlying dT = some (.slice elem)) (hs : (P.info? elem).map (·.size) = some 1)
    (hg : w.heap[g]? = some (.cells cur t (0, 0))) (hn : s.size ≤ dLen) (hp : 0 < s.size → dp = some ⟨g, o, none⟩) (hfit : o + s.size ≤ cur.size) :
    (Builtin.copy_ #[dT, sT] ty #[.slice dp dLen dCap, .string s]).run P w =
      .ok (goInt s.size) (w.setRow g (cur.toList.take o ++ Lib.strCells s ++ cur.toList.drop (o + s.size)).toArray) := by
  have hl := Lib.run_firstCells_string (P := P) w 1 s
  have hmin : Nat.min s.size dLen = s.size := Nat.min_eq_left hn
  have hlen := Lib.strCells_length s
  cases hq : P.info? elem with
  | none => simp [hq] at hs
  | some i =>
    have hi : i.size = 1 := by simpa [hq] using hs
    by_cases h0 : s.size = 0
    · have he : Lib.strCells s = [] := List.eq_nil_of_length_eq_zero (by rw [hlen, h0])
      have hw : w.setRow g (cur.toList.take o ++ Lib.strCells s ++ cur.toList.drop (o + s.size)).toArray = w := by
        rw [he, h0, List.append_nil, Nat.add_zero, List.take_append_drop]
        exact setRow_self w g cur t (0, 0) hg
      rw [hw]
      rw [he] at hl
      cases dp <;> simp [Builtin.copy_, run_underlying hu, Builtin.lenOf, sizeOf, typeInfo, hq, hi, hmin, hl, storeCells]
    · obtain rfl := hp (by omega)
      have hst := run_storeCells_at P g o t (Lib.strCells s) 0 cur w hg (by rw [hlen]; simpa using hfit) (Lib.strCells_oneCell s)
      simp only [Nat.add_zero, hlen] at hst
      simp [Builtin.copy_, run_underlying hu, Builtin.lenOf, sizeOf, typeInfo, hq, hi, hmin, hl, hst]
theorem wpList_copy_str {P : Program} {ops : Array Oper} {rest : List Oper} {o : Oper} {a : Act} {Q : Exit → Act → World → Prop} {w : World} (hgd : Region.wanted o (yielded ops a.tmps) = true) (d x : Operand) (dT sT elem : TypeId)
    (ho : o.op = .call { callee := .builtin .copy, args := #[d, x], argTypes := #[dT, sT] }) (hu : P.underlying dT = some (.slice elem)) (hs : (P.info? elem).map (·.size) = some 1)
    (g off dLen dCap : Nat) (dp : Option Addr) (s : ByteArray) (hd : a.eval d = .slice dp dLen dCap) (hx : a.eval x = .string s) (cur : List Value) (t : TypeId)
    (hg : w.heap[g]? = some (.cells cur.toArray t (0, 0))) (hn : s.size ≤ dLen) (hp : 0 < s.size → dp = some ⟨g, off, none⟩) (hfit : off + s.size ≤ cur.length)
    (h : ∀ w', w'.heap[g]? = some (.cells (cur.take off ++ Lib.strCells s ++ cur.drop (off + s.size)).toArray t (0, 0)) → OnlyF [g] w w' → wpList P ops Q rest (a.put o.dst (goInt s.size)) w') : wpList P ops Q (o :: rest) a w := by
  have hr := run_copy_str (P := P) w dT sT o.type elem g off dLen dCap dp s cur.toArray t hu hs hg hn hp (by simpa using hfit)
  refine wpList_step fun K hK => ?_
  rw [if_pos hgd]
  unfold Oper.wp execOp
  simp only [ho, resolve, invoke, builtin, Sem.run_bind, Sem.run_pure, Result.andThen_ok, List.map_toArray, List.map_cons, List.map_nil, hd, hx, hr]
  exact hK _ _ (h _ (setRow_heap w g _ _ t _ hg) (OnlyF.row w g _ (by simp)))
end Go.Proofs.Ytkdnplebgmmclaa
/- Lists of bytes: a list that the call builds by append; a literal. Generic; and the byte's row of the type table. -/
namespace Go.Proofs.Ytkdnplebgmmclaa
open Go.RowKit
set_option linter.unusedSimpArgs false
set_option linter.unusedVariables false

def RB (_ : World) (cs : List Value) (x : UInt8) : Prop := cs = [.int .u8 x.toNat]
theorem RB.stays : Stays RB := fun _ _ _ _ _ h => h
theorem RB.one : ∀ (w : World) cs x, RB w cs x → ∀ u ∈ cs, u.oneCell' = true := fun w cs x h u hu => by
  subst h
  simp at hu; subst hu; rfl
abbrev OwnB (B : Nat) (e : TypeId) : World → Value → List UInt8 → Prop := OwnL 1 B e RB
theorem run_append_B {P : Program} {t ty e : TypeId} {B : Nat} {w : World} {v u : Value} {xs ys : List UInt8} {M : Nat} (ht : P.underlying t = some (.slice e))
    (hinfo : (P.info? e).map (fun i => (i.zero, i.size, i.bytes)) = some (some (.int .u8 0), 1, 1))
    (h : OwnB B e w v xs) (hu : SlRep 1 M RB w u ys) (hlen : xs.length + ys.length ≤ 140737488355328) (hbase : B ≤ w.heap.size) :
    ∃ v' w', (Builtin.append_ #[t, t] ty #[v, u]).run P w = .ok v' w' ∧ OwnB B e w' v' (xs ++ ys) ∧ w.grownBy w' v.ownBlock := by
  obtain ⟨i, hi, hz, hs, hb⟩ := info_parts hinfo
  exact run_append_list t ty i _ 1 ht hi hz hs hb rfl (by omega) RB.one (fun _ _ _ h _ => h) h hu (by unfold maxLen; omega) (by omega) hbase
theorem run_op_append' {P : Program} {o : Oper} {a : Act} {w w' : World} {s x : Operand} {t : TypeId} {v u v' : Value} (ho : o.op = .call { callee := .builtin .append, args := #[s, x], argTypes := #[t, t] })
    (hs : a.eval s = v) (hx : a.eval x = u) (hr : (Builtin.append_ #[t, t] o.type #[v, u]).run P w = .ok v' w') : (execOp a.eval o).run P w = .ok (.value v') w' := by
  unfold execOp
  simp only [ho, resolve, invoke, builtin, Sem.run_bind, Sem.run_pure, Result.andThen_ok, List.map_toArray, List.map_cons, List.map_nil, hs, hx, hr]
theorem wpList_append_B {P : Program} {ops : Array Oper} {rest : List Oper} {o : Oper} {a : Act} {Q : Exit → Act → World → Prop} {w : World} (hgd : Region.wanted o (yielded ops a.tmps) = true) (s x : Operand) (t e : TypeId)
    (ho : o.op = .call { callee := .builtin .append, args := #[s, x], argTypes := #[t, t] }) (ht : P.underlying t = some (.slice e))
    (hinfo : (P.info? e).map (fun i => (i.zero, i.size, i.bytes)) = some (some (.int .u8 0), 1, 1))
    (B : Nat) (v u : Value) (xs ys : List UInt8) {M : Nat} (hs : a.eval s = v) (hx : a.eval x = u) (hown : OwnB B e w v xs) (hu : SlRep 1 M RB w u ys) (hlen : xs.length + ys.length ≤ 140737488355328) (hbase : B ≤ w.heap.size)
    (h : ∀ v' w', OwnB B e w' v' (xs ++ ys) → w.grownBy w' v.ownBlock → wpList P ops Q rest (a.put o.dst v') w') : wpList P ops Q (o :: rest) a w := by
  obtain ⟨v', w', hr, h2, h3⟩ := run_append_B (ty := o.type) ht hinfo hown hu hlen hbase
  refine wpList_step fun K hK => ?_
  rw [if_pos hgd]
  unfold Oper.wp
  rw [run_op_append' ho hs hx hr]
  exact hK _ _ (h v' w' h2 h3)
theorem flat_map (l : List UInt8) : (l.map fun b => [Value.int .u8 (b.toNat : Int)]).flatten = l.map fun b => Value.int .u8 (b.toNat : Int) := by
  induction l with
  | nil => rfl
  | cons a r ih => simp only [List.map_cons, List.flatten_cons, ih]; rfl
/-- A literal of bytes. -/
theorem bytes_new (w : World) (xs : List UInt8) (e : TypeId) (cs : Array Value) (n : Nat) (hn : n = xs.length) (hc : cs = (xs.map fun b => Value.int .u8 b.toNat).toArray) (h0 : n ≤ 4398046511104) :
    SlRep 1 4398046511104 RB (w.alloc (.cells cs e)) (.slice (some ⟨w.heap.size, 0, none⟩) n n) xs := by
  subst hn; subst hc
  refine ⟨_, _, rfl, Nat.le_refl _, h0, fun i x hx => ?_⟩
  refine ⟨w.heap.size, 0, [.int .u8 x.toNat], rfl, rfl, fun j c hj => ?_, rfl⟩
  have hj0 : j = 0 := by
    have := (List.getElem?_eq_some_iff.1 hj).1
    simp at this; omega
  subst hj0
  simp only [Nat.mul_one, Nat.add_zero, Nat.zero_add]
  simp at hj
  subst hj
  refine (World.cell?_alloc_mark w _ _ (0, 0) _).trans ?_
  simp [hx]
theorem own_new (w : World) (xs : List UInt8) (e : TypeId) (cs : Array Value) (n B : Nat) (hn : n = xs.length) (hc : cs = (xs.map fun b => Value.int .u8 b.toNat).toArray) (hB : B ≤ w.heap.size) (h0 : n ≤ 4398046511104) :
    OwnB B e (w.alloc (.cells cs e)) (.slice (some ⟨w.heap.size, 0, none⟩) n n) xs := by
  subst hn; subst hc
  refine ⟨xs.map fun b => [.int .u8 b.toNat], by simp, fun i cs y hi hy => ?_, ?_, .inr ⟨w.heap.size, xs.length, _, rfl, hB, heap_alloc_new w _, Nat.le_refl _, by unfold maxLen; omega, by simp, ?_⟩⟩
  · simp [hy] at hi
    subst hi
    exact ⟨rfl, rfl⟩
  · rw [flat_map]; simp
  · simp only [List.size_toArray, List.length_map, Nat.mul_one]
    rw [List.take_of_length_le (by simp), flat_map]
/-- A list of bytes as a text. -/
theorem conv_bytes {P : Program} (w : World) (src dst e : TypeId) (v : Value) (l : List UInt8) {M : Nat} (hs : P.underlying src = some (.slice e)) (he : P.underlying e = some (.int .u8)) (hd : P.underlying dst = some .string)
    (h : SlRep 1 M RB w v l) (hne : l ≠ []) : (convert src dst v).run P w = .ok (.string ⟨l.toArray⟩) w := by
  obtain ⟨A, cap, rfl, hl, hm, hx⟩ := h
  cases A with
  | none =>
    obtain ⟨a, r, rfl⟩ := List.exists_cons_of_ne_nil hne
    obtain ⟨_, _, _, hA, _⟩ := hx 0 a rfl
    cases hA
  | some a =>
    refine run_convert_bytes_back w src dst e a cap l hs he hd fun j hj => ?_
    obtain ⟨b, off, cs, hA, h1, h2, h3⟩ := hx j _ (List.getElem?_eq_getElem hj)
    injection hA with hA
    subst hA
    have := h2 0 _ (by rw [show cs = [.int .u8 (l[j].toNat : Int)] from h3]; rfl)
    rw [← this]
    congr 1
    unfold Addr.add
    by_cases h' : j = 0 <;> simp [h']
end Go.Proofs.Ytkdnplebgmmclaa
/- A number in decimal: the document's digits. -/
namespace Go.Proofs.Ytkdnplebgmmclaa
open Go.RowKit
set_option linter.unusedSimpArgs false
set_option linter.unusedVariables false

def one8 (c : UInt8) : ByteArray := ⟨#[c]⟩
theorem conv_one (W : World) (z : Int) (c : UInt8) (hz : z = c.toNat) :
    (convert 203 9 (.slice (some ⟨W.heap.size, 0, none⟩) 1 1)).run Try.prog (W.alloc (.cells #[.int .u8 z] 5)) = .ok (.string (one8 c)) (W.alloc (.cells #[.int .u8 z] 5)) := by
  subst hz
  exact conv_bytes (P := Try.prog) _ 203 9 5 _ [c] Try.underlying203 Try.underlying5 Try.underlying9 (bytes_new W [c] _ _ 1 rfl rfl (by decide)) (by simp)
theorem one8_app (c : UInt8) (t : ByteArray) : (one8 c ++ t).data.toList = c :: t.data.toList := by simp [one8]
theorem one8_size (c : UInt8) (t : ByteArray) : (one8 c ++ t).size = t.size + 1 := by
  rw [ByteArray.size_append, show (one8 c).size = 1 from rfl, Nat.add_comm]

end Go.Proofs.Ytkdnplebgmmclaa
/- The document's letter and Keyword. -/
namespace Go.Proofs.Ytkdnplebgmmclaa
open Go.RowKit
set_option linter.unusedSimpArgs false
set_option linter.unusedVariables false

end Go.Proofs.Ytkdnplebgmmclaa
/- The document's names: letter, written, Keyword, Name; Digits. -/
namespace Go.Proofs.Ytkdnplebgmmclaa
open Go.RowKit
set_option linter.unusedSimpArgs false
set_option linter.unusedVariables false

theorem decDigits_len : ∀ (k n : Nat), n < 10 ^ (k + 1) → (Lib.decDigits n).length ≤ k + 1
  | 0, n, h => by rw [Lib.decDigits, dif_pos (by simpa using h)]; simp
  | k + 1, n, h => by
    by_cases h1 : n < 10
    · rw [Lib.decDigits, dif_pos h1]; simp
    · rw [Lib.decDigits, dif_neg h1, List.length_append]
      have := decDigits_len k (n / 10) (by rw [Nat.pow_succ] at h; omega)
      simp; omega
end Go.Proofs.Ytkdnplebgmmclaa
/- strings.Builder, written byte by byte: what a call's own builder holds; all blocks that are not its own, and no plain row of bytes, stay. -/
namespace Go.Proofs.Ytkdnplebgmmclaa
open Go.RowKit
set_option linter.unusedSimpArgs false
set_option linter.unusedVariables false

abbrev TE : TypeId := 5
def Marked (b : Nat) (w w' : World) : Prop := ∀ (k : Nat) cur t fr, w.heap[k]? = some (.cells cur t fr) → k ≠ b → (t = TE → fr ≠ (0, 0)) → w'.heap[k]? = some (.cells cur t fr)
theorem Marked.refl (b : Nat) (w : World) : Marked b w w := fun _ _ _ _ h _ _ => h
theorem Marked.trans {b : Nat} {x y z : World} (h : Marked b x y) (k : Marked b y z) : Marked b x z := fun i c t f hi hb ht => k i c t f (h i c t f hi hb ht) hb ht
theorem Marked.set {b : Nat} (w : World) (o : Nat) (u : Value) : Marked b w (w.setCell ⟨b, o, none⟩ u) := fun k c t f hk hb ht => by
  rw [Below.heap_setCell _ _ _ _ (by exact hb)]; exact hk
theorem Marked.fut {b : Nat} {w w' : World} (h : Fut w w') : Marked b w w' := fun k c t f hk _ _ => Fut.block h hk
theorem Marked.grown {b : Nat} {w w' : World} {base sz n : Nat} {v : Value} {xs : List Value} (h : w.ownsRow base TE sz v n xs) (hg : w.grownBy w' v.ownBlock) : Marked b w w' := fun k c t f hk _ ht => by
  refine (hg.block k (lt_of_block hk) fun e => ?_).trans hk
  rcases h.2 with ⟨rfl, _⟩ | ⟨g, cap, cur, rfl, _, hh, _⟩
  · cases e
  · simp only [Value.ownBlock, Option.some.injEq] at e
    subst e
    rw [hk] at hh
    simp only [Option.some.injEq, Obj.cells.injEq] at hh
    exact ht hh.2.1 hh.2.2

end Go.Proofs.Ytkdnplebgmmclaa
/- A text between quotes: the document's Quoted. -/
namespace Go.Proofs.Ytkdnplebgmmclaa
open Go.RowKit
set_option linter.unusedSimpArgs false
set_option linter.unusedVariables false

def hx (n : Nat) : UInt8 := if n < 10 then UInt8.ofNat (48 + n) else UInt8.ofNat (87 + n)
def esc (c : UInt8) : List UInt8 := if c.toNat = 10 then [92, 110] else if c.toNat = 34 ∨ c.toNat = 92 then [92, c] else if 32 ≤ c.toNat ∧ c.toNat ≤ 126 then [c] else [92, 120, hx (c.toNat / 16), hx (c.toNat % 16)]
def quoteL (l : List UInt8) : List UInt8 := 34 :: (l.flatMap esc ++ [34])
theorem esc_len (c : UInt8) : (esc c).length ≤ 4 := by unfold esc; (repeat' split) <;> simp
theorem flat_len (l : List UInt8) : (l.flatMap esc).length ≤ 4 * l.length := by
  induction l with
  | nil => simp
  | cons a r ih => rw [List.flatMap_cons, List.length_append, List.length_cons]; have := esc_len a; omega
theorem infoB : (Try.prog.info? 5).map (fun i => (i.zero, i.size, i.bytes)) = some (some (.int .u8 0), 1, 1) := by kernel_rfl
theorem take_flat (s : ByteArray) (k : Nat) (h : k < s.size) : (s.data.toList.take (k + 1)).flatMap esc = (s.data.toList.take k).flatMap esc ++ esc s[k] := by
  have h' : k < s.data.size := h
  have e : s.data.toList[k]? = some s[k] := by rw [Array.getElem?_toList, Array.getElem?_eq_getElem h']; rfl
  rw [List.take_add_one, e, List.flatMap_append]
  simp

theorem hx_lit (a : Nat) (ha : a < 16) : ∀ h, (⟨#[48, 49, 50, 51, 52, 53, 54, 55, 56, 57, 97, 98, 99, 100, 101, 102]⟩ : ByteArray)[a]'h = hx a := by
  intro h
  rcases (by omega : a = 0 ∨ a = 1 ∨ a = 2 ∨ a = 3 ∨ a = 4 ∨ a = 5 ∨ a = 6 ∨ a = 7 ∨ a = 8 ∨ a = 9 ∨ a = 10 ∨ a = 11 ∨ a = 12 ∨ a = 13 ∨ a = 14 ∨ a = 15) with rfl | rfl | rfl | rfl | rfl | rfl | rfl | rfl | rfl | rfl | rfl | rfl | rfl | rfl | rfl | rfl <;> rfl
theorem quo16 (c : Nat) (h : c < 256) : IntKind.u8.wrap ((c : Int) / 16) = ((c / 16 : Nat) : Int) := by
  rw [show (c : Int) / 16 = ((c / 16 : Nat) : Int) by omega]
  simp [IntKind.wrap, IntKind.signed, IntKind.bits]; omega
theorem rem16 (c : Nat) : (c : Int).tmod 16 = ((c % 16 : Nat) : Int) := (Int.ofNat_tmod c 16).symm

end Go.Proofs.Ytkdnplebgmmclaa
/- A text between quotes: value.quoted. -/
namespace Go.Proofs.Ytkdnplebgmmclaa
open Go.RowKit
set_option linter.unusedSimpArgs false
set_option linter.unusedVariables false

end Go.Proofs.Ytkdnplebgmmclaa
/- A value as a source has it: the document's Show, value.Show. -/
namespace Go.Proofs.Ytkdnplebgmmclaa
open Go.RowKit
set_option linter.unusedSimpArgs false
set_option linter.unusedVariables false

def wroteV (lo hi : Nat) (s : ByteArray) : Bool := decide (0 < s.size) && decide (s.size ≤ 120) && (decide (lo ≤ (s.data.getD 0 0).toNat) && decide ((s.data.getD 0 0).toNat ≤ hi)) && s.data.toList.all (fun b => letterN b.toNat)
theorem nameV_eq (s : ByteArray) : nameV s = (wroteV 97 122 s && !keyB s.toList) := rfl

/-- What is shown, and the error. -/
def showV (x : V) : ByteArray × Int :=
  if chk x.k x.n x.s ≠ 0 then (⟨#[]⟩, 10) else if x.k = 1 then (⟨(Lib.itoa x.n).toArray⟩, 0) else if nameV x.s = true then (x.s, 0) else (⟨(quoteL x.s.data.toList).toArray⟩, 0)
def tupS (r : ByteArray × Int) : Value := .tuple #[.string r.1, .int .i64 r.2]
/-- The table of the powers of ten is laid. -/
def Pows (w : World) : Prop := Lib.TabIs Try.prog w "internal/strconv.uint64pow10" .u64 Lib.pow10Tab
theorem var_fut {P : Program} {w w' : World} {n : String} {cs : Array Value} (h : w.var? P n = some cs) (hf : Fut w w') : w'.var? P n = some cs := by
  unfold World.var? at h ⊢
  cases hg : P.globalNamed n with
  | none => simp [hg] at h
  | some g =>
    simp only [hg, Option.bind_some] at h ⊢
    have hlt : g < w.heap.size := by
      rcases Nat.lt_or_ge g w.heap.size with h' | h'
      · exact h'
      · simp [Array.getElem?_eq_none h'] at h
    rw [Below.block hf g hlt]
    exact h
theorem Pows.fut {w w' : World} (h : Pows w) (hf : Fut w w') : Pows w' := var_fut (P := Try.prog) h hf
theorem fut_grow (w : World) (k : Nat) (os : Array Obj) : Fut w (Sort.grow (w.drewN k) os) :=
  ⟨rfl, rfl, rfl, by simp [Sort.grow, World.drewN], fun j hj => by
    show (w.heap ++ os)[j]? = _
    rw [Array.getElem?_append_left hj]⟩
end Go.Proofs.Ytkdnplebgmmclaa
/- Copies of lists of tuples, of lists of facts, a mark behind each: TwinTuples, LeftTuples, TwinFacts, LeftFacts. -/
namespace Go.Proofs.Ytkdnplebgmmclaa
open Go.RowKit
set_option linter.unusedSimpArgs false
set_option linter.unusedVariables false

theorem vals_one (w : World) (x : V) (hx : x.ok) (e : TypeId) : Vals (w.alloc (.cells #[.int .i8 x.k, .int .i64 x.n, .string x.s] e)) (.slice (some ⟨w.heap.size, 0, none⟩) 1 1) [x] :=
  (own_one w x hx e w.heap.size (Nat.le_refl _)).vals
theorem markV_ok : markV.ok := ⟨by decide, by decide, Nat.zero_le _⟩
def markTR (w : World) (cs : List Value) : Prop := ∃ b, cs = [.slice (some ⟨b, 0, none⟩) 1 1] ∧ Vals w (.slice (some ⟨b, 0, none⟩) 1 1) [markV]
theorem vals_far {w : World} {b o n c : Nat} {xs : List V} (h : Vals w (.slice (some ⟨b, o, none⟩) n c) xs) {p : Addr} {v : Value} (hp : p.block ≠ b) : Vals (w.setCell p v) (.slice (some ⟨b, o, none⟩) n c) xs := by
  obtain ⟨A, cap, hv, h1, h2, h3⟩ := h
  refine ⟨A, cap, hv, h1, h2, fun i x hx => ?_⟩
  obtain ⟨b', off, cs, hA, hl, hc, hr⟩ := h3 i x hx
  refine ⟨b', off, cs, hA, hl, fun j u hj => ?_, hr⟩
  injection hv with e1 _ _
  rw [← e1] at hA
  injection hA with hA
  injection hA with e2 _
  rw [World.cell?_setCell_other _ _ _ _ (by intro e; apply hp; rw [e]; exact e2.symm)]
  exact hc j u hj
/-! ### Tuples -/
def RETw (B : Nat) (w : World) (cs : List Value) (x : List V) : Prop := ∃ u, cs = [u] ∧ TwinR B w u x
theorem RETw.stays (B : Nat) : Stays (RETw B) := fun _ _ _ _ hf ⟨u, h1, h2⟩ => ⟨u, h1, h2.fut hf⟩
theorem markTR.fut : ∀ w w' cs, Fut w w' → markTR w cs → markTR w' cs := fun _ _ _ hf ⟨b, h1, h2⟩ => ⟨b, h1, h2.fut RV.stays hf⟩
abbrev TwinT : Nat → World → Value → List (List V) → Prop := TwinE 1 31 [.slice none 0 0] RETw markTR
theorem TwinT.keep {B : Nat} {w w' : World} {v : Value} {ts : List (List V)} (h : TwinT B w v ts) (hf : Fut w w') : TwinT B w' v ts := TwinE.fut RETw.stays markTR.fut h hf
theorem TwinR.far {B : Nat} {w : World} {u : Value} {xs : List V} (h : TwinR B w u xs) {p : Addr} (hp : p.block < B) (v : Value) : TwinR B (w.setCell p v) u xs := by
  obtain ⟨g, h1, h2, h3⟩ := h
  exact ⟨g, h1, h2, h3.far (by omega) v⟩
theorem TwinR.low {B B' : Nat} {w : World} {u : Value} {xs : List V} (h : TwinR B w u xs) (hB : B' ≤ B) : TwinR B' w u xs := by
  obtain ⟨g, h1, h2, h3⟩ := h
  exact ⟨g, by omega, h2, h3⟩
theorem TwinT.tups {B : Nat} {w : World} {v : Value} {ts : List (List V)} (h : TwinT B w v ts) (hok : ∀ t ∈ ts, ∀ x ∈ t, x.ok) (hl : ∀ t ∈ ts, t.length < 4398046511104) (hm : ts.length < 4398046511104) : Tups w v ts :=
  TwinE.rep h (fun g cs x hx ⟨u, h1, h2⟩ => ⟨u, h1, h2.vals (hok x hx) (hl x hx)⟩) (by omega)
theorem Tups.oks {w : World} {v : Value} {ts : List (List V)} (h : Tups w v ts) : ∀ t ∈ ts, ∀ x ∈ t, x.ok := by
  obtain ⟨A, cap, _, _, _, h3⟩ := h
  intro t ht
  obtain ⟨i, hi⟩ := List.getElem?_of_mem ht
  obtain ⟨_, _, _, _, _, _, u, _, hu⟩ := h3 i t hi
  exact hu.oks

end Go.Proofs.Ytkdnplebgmmclaa
/- The value that is written so: plain laws (no program walked). -/
namespace Go.Proofs.Ytkdnplebgmmclaa
open Go.RowKit Go.Lib
set_option linter.unusedSimpArgs false
set_option linter.unusedVariables false

theorem wr_k (z : Int) : ∃ k : Int, wrap64 z = z + k * 18446744073709551616 := ⟨-((z + 9223372036854775808) / 18446744073709551616), by unfold wrap64; omega⟩
theorem wr_eq {a b : Int} (k : Int) (h : a = b + k * 18446744073709551616) : wrap64 a = wrap64 b := by unfold wrap64; omega
theorem wr_in {z : Int} (h : -9223372036854775808 ≤ z ∧ z ≤ 9223372036854775807) : wrap64 z = z := by unfold wrap64; omega

/-- The document's number, as it goes. -/
def numF : List UInt8 → Int → Int
  | [], n => n
  | c :: r, n => if c.toNat = 45 then numF r n else numF r (wrap64 (wrap64 (wrap64 (10 * n) + c.toNat) - 48))
def numL (l : List UInt8) : Int := if (l.getD 0 0).toNat = 45 then wrap64 (-(numF l 0)) else numF l 0
theorem numF_append : ∀ (l m : List UInt8) (n : Int), numF (l ++ m) n = numF m (numF l n)
  | [], _, _ => rfl
  | c :: r, m, n => by
    simp only [List.cons_append, numF]
    split <;> exact numF_append r m _
theorem dig_nat (d : Nat) (h : d < 10) : (UInt8.ofNat (48 + d)).toNat = 48 + d := by simp; omega
theorem numF_dec (u : Nat) : numF (decDigits u) 0 = wrap64 u := by
  induction u using Nat.strongRecOn with
  | _ u ih =>
    by_cases h : u < 10
    · rw [decDigits, dif_pos h]
      simp only [numF]
      rw [if_neg (by rw [dig_nat u h]; omega), dig_nat u h]
      unfold wrap64; omega
    · rw [decDigits, dif_neg h, numF_append, ih (u / 10) (by omega)]
      simp only [numF]
      rw [if_neg (by rw [dig_nat _ (by omega)]; omega), dig_nat _ (by omega)]
      obtain ⟨k, hk⟩ := wr_k ((u / 10 : Nat) : Int)
      rw [hk]
      unfold wrap64; omega
theorem dec_head (u : Nat) : ∃ d r, decDigits u = UInt8.ofNat (48 + d) :: r ∧ d < 10 := by
  induction u using Nat.strongRecOn with
  | _ u ih =>
    by_cases h : u < 10
    · exact ⟨u, [], by rw [decDigits, dif_pos h], h⟩
    · obtain ⟨d, r, e, hd⟩ := ih (u / 10) (by omega)
      exact ⟨d, r ++ [UInt8.ofNat (48 + u % 10)], by rw [decDigits, dif_neg h, e]; rfl, hd⟩
theorem numL_itoa (n : Int) (h : -9223372036854775808 ≤ n ∧ n ≤ 9223372036854775807) : numL (itoa n) = n := by
  unfold itoa
  by_cases hn : n < 0
  · rw [if_pos hn]
    have e : numF (45 :: decDigits n.natAbs) 0 = wrap64 (n.natAbs : Int) := by
      simp only [numF]
      rw [if_pos (show UInt8.toNat 45 = 45 from rfl), numF_dec]
    unfold numL
    rw [if_pos (show ((45 :: decDigits n.natAbs).getD 0 0).toNat = 45 from rfl), e]
    unfold wrap64; omega
  · rw [if_neg hn]
    obtain ⟨d, r, e, hd⟩ := dec_head n.toNat
    unfold numL
    rw [numF_dec, e, List.getD_cons_zero, if_neg (by rw [dig_nat d hd]; omega)]
    unfold wrap64; omega

/-! ### What stands between quotes -/
def halfN (c : Nat) : Int := if 48 ≤ c ∧ c ≤ 57 then c - 48 else if 97 ≤ c ∧ c ≤ 102 then c - 97 + 10 else -1
def unhex (a b : UInt8) : UInt8 := UInt8.ofNat ((16 * halfN a.toNat + halfN b.toNat) % 256).toNat
/-- The document's, from a place on, the last quote with it. -/
def unqS : List UInt8 → List UInt8
  | [] => []
  | [_] => []
  | c :: d :: r =>
    if c.toNat ≠ 92 then c :: unqS (d :: r)
    else match r with
      | a :: b :: r' => if d.toNat = 120 then unhex a b :: unqS r' else if d.toNat = 110 then 10 :: unqS (a :: b :: r') else d :: unqS (a :: b :: r')
      | r => if d.toNat = 110 then 10 :: unqS r else d :: unqS r
termination_by l => l.length
def hexv (c : UInt8) : Option Nat := if 48 ≤ c.toNat ∧ c.toNat ≤ 57 then some (c.toNat - 48) else if 97 ≤ c.toNat ∧ c.toNat ≤ 102 then some (c.toNat - 87) else if 65 ≤ c.toNat ∧ c.toNat ≤ 70 then some (c.toNat - 55) else none
/-- value.said, from a place on. -/
def saidS : List UInt8 → Option (List UInt8)
  | [] => some []
  | c :: r =>
    if c.toNat ≠ 92 then (saidS r).map (c :: ·)
    else match r with
      | [] => none
      | d :: r2 =>
        if d.toNat = 110 then (saidS r2).map (10 :: ·)
        else if d.toNat ≠ 120 then (saidS r2).map (d :: ·)
        else match r2 with
          | a :: b :: r3 => match hexv a, hexv b with
            | some x, some y => (saidS r3).map (UInt8.ofNat (16 * x + y) :: ·)
            | _, _ => none
          | _ => none
termination_by l => l.length
theorem hx_nat (n : Nat) (h : n < 16) : (hx n).toNat = if n < 10 then 48 + n else 87 + n := by
  unfold hx
  split <;> simp <;> omega
theorem half_hx (n : Nat) (h : n < 16) : halfN (hx n).toNat = n := by
  rw [hx_nat n h]
  unfold halfN
  split <;> (repeat' split) <;> omega
theorem hexv_hx (n : Nat) (h : n < 16) : hexv (hx n) = some n := by
  unfold hexv
  rw [hx_nat n h]
  by_cases h1 : n < 10
  · rw [if_pos h1, if_pos (by omega)]; congr 1; omega
  · rw [if_neg h1, if_neg (by omega), if_pos (by omega)]; congr 1; omega
theorem byte_split (c : UInt8) : UInt8.ofNat (16 * (c.toNat / 16) + c.toNat % 16) = c := by
  rw [show 16 * (c.toNat / 16) + c.toNat % 16 = c.toNat by omega]; simp
theorem unhex_hx (c : UInt8) : unhex (hx (c.toNat / 16)) (hx (c.toNat % 16)) = c := by
  have := c.toNat_lt
  unfold unhex
  rw [half_hx _ (by omega), half_hx _ (by omega), show ((16 * ((c.toNat / 16 : Nat) : Int) + ((c.toNat % 16 : Nat) : Int)) % 256).toNat = c.toNat by omega]
  simp
theorem esc_cases (c : UInt8) : (c = 10 ∧ esc c = [92, 110]) ∨ ((c.toNat = 34 ∨ c.toNat = 92) ∧ esc c = [92, c]) ∨ (c.toNat ≠ 92 ∧ esc c = [c]) ∨ esc c = [92, 120, hx (c.toNat / 16), hx (c.toNat % 16)] := by
  by_cases h1 : c.toNat = 10
  · exact .inl ⟨UInt8.toNat_inj.1 h1, by unfold esc; rw [if_pos h1]⟩
  · by_cases h2 : c.toNat = 34 ∨ c.toNat = 92
    · exact .inr (.inl ⟨h2, by unfold esc; rw [if_neg h1, if_pos h2]⟩)
    · by_cases h3 : 32 ≤ c.toNat ∧ c.toNat ≤ 126
      · exact .inr (.inr (.inl ⟨by omega, by unfold esc; rw [if_neg h1, if_neg h2, if_pos h3]⟩))
      · exact .inr (.inr (.inr (by unfold esc; rw [if_neg h1, if_neg h2, if_neg h3])))
theorem said_flat : ∀ u : List UInt8, saidS (u.flatMap esc) = some u
  | [] => by rw [List.flatMap_nil, saidS]
  | c :: r => by
    have ih := said_flat r
    have hc := c.toNat_lt
    rw [List.flatMap_cons]
    rcases esc_cases c with ⟨rfl, e⟩ | ⟨h, e⟩ | ⟨h, e⟩ | e
    · rw [e, show ([92, 110] : List UInt8) ++ r.flatMap esc = 92 :: 110 :: r.flatMap esc from rfl, saidS.eq_def]
      simp [ih]
    · rw [e, show ([92, c] : List UInt8) ++ r.flatMap esc = 92 :: c :: r.flatMap esc from rfl, saidS.eq_def]
      have h1 : ¬ c.toNat = 110 := by omega
      have h2 : ¬ c.toNat = 120 := by omega
      simp [ih, h1, h2]
    · rw [e, show ([c] : List UInt8) ++ r.flatMap esc = c :: r.flatMap esc from rfl, saidS.eq_def]
      simp [ih, h]
    · rw [e, show ([92, 120, hx (c.toNat / 16), hx (c.toNat % 16)] : List UInt8) ++ r.flatMap esc = 92 :: 120 :: hx (c.toNat / 16) :: hx (c.toNat % 16) :: r.flatMap esc from rfl, saidS.eq_def]
      simp [ih, hexv_hx _ (show c.toNat / 16 < 16 by omega), hexv_hx _ (show c.toNat % 16 < 16 by omega)]
      simpa using byte_split c
theorem unqS_plain (c d : UInt8) (r : List UInt8) (h : c.toNat ≠ 92) : unqS (c :: d :: r) = c :: unqS (d :: r) := by
  rw [unqS.eq_def]
  simp [h]
theorem unqS_two (d : UInt8) (r : List UInt8) (h : d.toNat ≠ 120) : unqS (92 :: d :: r) = (if d.toNat = 110 then 10 else d) :: unqS r := by
  rw [unqS.eq_def]
  cases r with
  | nil => simp; split <;> simp
  | cons a r =>
    cases r with
    | nil => simp; split <;> simp
    | cons b r => simp [h]; split <;> simp
theorem unqS_hex (a b : UInt8) (r : List UInt8) : unqS (92 :: 120 :: a :: b :: r) = unhex a b :: unqS r := by
  rw [unqS.eq_def]
  simp
theorem unq_flat : ∀ u : List UInt8, unqS (u.flatMap esc ++ [34]) = u
  | [] => by rw [List.flatMap_nil, List.nil_append, unqS]
  | c :: r => by
    have ih := unq_flat r
    have hc := c.toNat_lt
    obtain ⟨x, y, e⟩ : ∃ x y, r.flatMap esc ++ [34] = x :: y := by
      cases h : r.flatMap esc with
      | nil => exact ⟨34, [], rfl⟩
      | cons a b => exact ⟨a, b ++ [34], rfl⟩
    rw [List.flatMap_cons, List.append_assoc]
    rcases esc_cases c with ⟨rfl, e'⟩ | ⟨h, e'⟩ | ⟨h, e'⟩ | e'
    · rw [e', show ([92, 110] : List UInt8) ++ (r.flatMap esc ++ [34]) = 92 :: 110 :: (r.flatMap esc ++ [34]) from rfl, unqS_two _ _ (by decide), ih]
      simp
    · rw [e', show ([92, c] : List UInt8) ++ (r.flatMap esc ++ [34]) = 92 :: c :: (r.flatMap esc ++ [34]) from rfl, unqS_two _ _ (by omega), ih, if_neg (by omega)]
    · rw [e', e, show ([c] : List UInt8) ++ x :: y = c :: x :: y from rfl, unqS_plain _ _ _ h, ← e, ih]
    · rw [e', show ([92, 120, hx (c.toNat / 16), hx (c.toNat % 16)] : List UInt8) ++ (r.flatMap esc ++ [34]) = 92 :: 120 :: hx (c.toNat / 16) :: hx (c.toNat % 16) :: (r.flatMap esc ++ [34]) from rfl, unqS_hex, unhex_hx, ih]

/-! ### Both readings -/
def unqL (s : ByteArray) : ByteArray := ⟨(unqS (s.data.toList.drop 1)).toArray⟩
/-- Is it between quotes? -/
def inQ (l : List UInt8) : Bool := decide (2 ≤ l.length) && (l.getD 0 0).toNat == 34 && (l.getD (l.length - 1) 0).toNat == 34
def readR (s : ByteArray) : V × Int :=
  if showV (numV (numL s.data.toList)) = (s, 0) then (numV (numL s.data.toList), 0)
  else if showV (txtV s) = (s, 0) then (txtV s, 0)
  else if showV (txtV (unqL s)) = (s, 0) then (txtV (unqL s), 0)
  else (noV, 10)
/-- What value.Read asks Show of; none: it gives up. -/
def readQ (s : ByteArray) : Option V := if inQ s.data.toList = true then (saidS ((s.data.toList.drop 1).take (s.size - 2))).map fun t => txtV ⟨t.toArray⟩ else some (txtV s)
def readC (s : ByteArray) : Option V :=
  match parseIntB 64 s.data.toList with
  | .ok n => some (numV n)
  | _ => readQ s
def readS (s : ByteArray) : Option V → V × Int
  | none => (noV, 10)
  | some v => if showV v = (s, 0) then (v, 0) else (noV, 10)
def readP (s : ByteArray) : V × Int := readS s (readC s)
end Go.Proofs.Ytkdnplebgmmclaa
/- value.Read answers what the document's Read answers: plain law. -/
namespace Go.Proofs.Ytkdnplebgmmclaa
open Go.RowKit Go.Lib
set_option linter.unusedSimpArgs false
set_option linter.unusedVariables false

theorem show_num (n : Int) : showV (numV n) = (⟨(itoa n).toArray⟩, 0) := by
  unfold showV
  rw [if_neg (by simp [numV, chk, ByteArray.toList_eq]), if_pos (show (numV n).k = 1 from rfl)]
  rfl
theorem show_txt (t s : ByteArray) (h : showV (txtV t) = (s, 0)) : t.size ≤ 200 ∧ ((nameV t = true ∧ s = t) ∨ (nameV t = false ∧ s = ⟨(quoteL t.data.toList).toArray⟩)) := by
  unfold showV at h
  by_cases h1 : t.size ≤ 200
  · rw [if_neg (by simp [txtV, chk, h1]), if_neg (show ¬ (txtV t).k = 1 by simp [txtV])] at h
    by_cases h2 : nameV t = true
    · rw [if_pos (show nameV (txtV t).s = true from h2)] at h
      exact ⟨h1, .inl ⟨h2, (congrArg Prod.fst h).symm⟩⟩
    · rw [if_neg (show ¬ nameV (txtV t).s = true from h2)] at h
      exact ⟨h1, .inr ⟨by simpa using h2, (congrArg Prod.fst h).symm⟩⟩
  · rw [if_pos (by simp [txtV, chk, h1])] at h
    have := congrArg Prod.snd h
    simp at this
theorem parseM_append (M : Nat) : ∀ (l m : List UInt8) (acc a : Nat), parseUintM M acc l = .ok a → parseUintM M acc (l ++ m) = parseUintM M a m
  | [], m, acc, a, h => by simp only [parseUintM] at h; injection h with h; subst h; rfl
  | c :: r, m, acc, a, h => by
    simp only [List.cons_append, parseUintM] at h ⊢
    by_cases h1 : 48 ≤ c.toNat ∧ c.toNat ≤ 57
    · rw [if_pos h1] at h ⊢
      by_cases h2 : 1844674407370955162 ≤ acc
      · rw [if_pos h2] at h; cases h
      · rw [if_neg h2] at h ⊢
        by_cases h3 : M < acc * 10 + (c.toNat - 48)
        · rw [if_pos h3] at h; cases h
        · rw [if_neg h3] at h ⊢
          exact parseM_append M r m _ a h
    · rw [if_neg h1] at h; cases h
theorem parseM_dec (M u : Nat) (hM : M ≤ 18446744073709551615) (h : u ≤ M) : parseUintM M 0 (decDigits u) = .ok u := by
  induction u using Nat.strongRecOn with
  | _ u ih =>
    by_cases h1 : u < 10
    · rw [decDigits, dif_pos h1]
      simp only [parseUintM]
      rw [dig_nat u h1, if_pos (by omega), if_neg (by omega), if_neg (by omega)]
      simp
    · rw [decDigits, dif_neg h1, parseM_append M _ _ 0 (u / 10) (ih (u / 10) (by omega) (by omega))]
      simp only [parseUintM]
      rw [dig_nat _ (by omega), if_pos (by omega), if_neg (by omega), if_neg (by omega)]
      congr 1; omega
theorem parse_itoa (n : Int) (h : -9223372036854775808 ≤ n ∧ n ≤ 9223372036854775807) : parseIntB 64 (itoa n) = .ok n := by
  have ne : ∀ u, decDigits u ≠ [] := fun u e => by obtain ⟨d, r, e', _⟩ := dec_head u; rw [e'] at e; cases e
  have hp : ∀ u, u ≤ 9223372036854775808 → parseUintB 64 (decDigits u) = .ok u := fun u hu => by
    unfold parseUintB
    rw [if_neg (ne u)]
    exact parseM_dec _ u (by decide) (by simp; omega)
  unfold itoa
  by_cases hn : n < 0
  · rw [if_pos hn]
    simp only [parseIntB]
    rw [if_pos (show UInt8.toNat 45 = 43 ∨ UInt8.toNat 45 = 45 from .inr rfl), hp _ (by omega)]
    simp only
    rw [if_neg (by simp), if_neg (by simp; omega), if_pos (by rfl)]
    congr 1; omega
  · rw [if_neg hn]
    obtain ⟨d, r, e, hd⟩ := dec_head n.toNat
    have h2 := hp n.toNat (by omega)
    rw [e] at h2 ⊢
    simp only [parseIntB]
    rw [if_neg (by rw [dig_nat d hd]; omega), h2]
    simp only
    rw [if_neg (by simp; omega), if_neg (by rw [dig_nat d hd]; omega), if_neg (by rw [dig_nat d hd]; omega)]
    congr 1; omega
theorem parse_head (l : List UInt8) (n : Int) (h : parseIntB 64 l = .ok n) : ∃ c r, l = c :: r ∧ (c.toNat = 43 ∨ c.toNat = 45 ∨ (48 ≤ c.toNat ∧ c.toNat ≤ 57)) := by
  match l, h with
  | [], h => simp [parseIntB] at h
  | c :: r, h =>
    refine ⟨c, r, rfl, ?_⟩
    by_cases h1 : c.toNat = 43 ∨ c.toNat = 45
    · rcases h1 with h1 | h1
      · exact .inl h1
      · exact .inr (.inl h1)
    · refine .inr (.inr ?_)
      simp only [parseIntB] at h
      rw [if_neg h1] at h
      unfold parseUintB at h
      rw [if_neg (by simp)] at h
      simp only [parseUintM] at h
      by_cases h2 : 48 ≤ c.toNat ∧ c.toNat ≤ 57
      · exact h2
      · rw [if_neg h2] at h; cases h
theorem list_of (s : ByteArray) (l : List UInt8) : s = ⟨l.toArray⟩ ↔ s.data.toList = l := by
  constructor
  · intro h; subst h; simp
  · intro h; apply WideShapes.bytes_inj; rw [h]
theorem name_first {s : ByteArray} (h : nameV s = true) : ∃ c r, s.data.toList = c :: r ∧ 97 ≤ c.toNat ∧ c.toNat ≤ 122 := by
  simp [nameV] at h
  have h0 : 0 < s.size := h.1.1.1.1
  rw [show s.data[0]?.getD 0 = s[0] from head_at s h0] at h
  cases hl : s.data.toList with
  | nil => rw [Lib.size_eq, hl] at h0; simp at h0
  | cons c r =>
    refine ⟨c, r, rfl, ?_⟩
    have e : s[0] = c := by
      have h' : 0 < s.data.size := h0
      have : s.data.toList[0]? = some s[0] := by rw [Array.getElem?_toList, Array.getElem?_eq_getElem h']; rfl
      rw [hl] at this
      simpa using this.symm
    rw [e] at h
    exact h.1.1.2
theorem quote_len (t : List UInt8) : t.length + 2 ≤ (quoteL t).length := by
  have : ∀ l : List UInt8, l.length ≤ (l.flatMap esc).length := fun l => by
    induction l with
    | nil => simp
    | cons c r ih =>
      rw [List.flatMap_cons, List.length_append, List.length_cons]
      have : 1 ≤ (esc c).length := by rcases esc_cases c with ⟨rfl, e⟩ | ⟨_, e⟩ | ⟨_, e⟩ | e <;> rw [e] <;> simp
      omega
  have := this t
  simp only [quoteL, List.length_cons, List.length_append, List.length_nil]; omega
theorem quote_inQ (t : List UInt8) : inQ (quoteL t) = true := by
  have h := quote_len t
  have e : (quoteL t).getD ((quoteL t).length - 1) 0 = 34 := by
    have : (quoteL t).length - 1 = (34 :: t.flatMap esc).length := by simp [quoteL]
    rw [this, show quoteL t = (34 :: t.flatMap esc) ++ [34] by simp [quoteL]]
    simp [List.getD]
  unfold inQ
  rw [e]
  simp [quoteL]
theorem quote_inner (t : List UInt8) : ((quoteL t).drop 1).take ((quoteL t).length - 2) = t.flatMap esc := by
  simp [quoteL]
theorem quote_drop (t : List UInt8) : (quoteL t).drop 1 = t.flatMap esc ++ [34] := by simp [quoteL]
theorem read_eq (s : ByteArray) (hn : -9223372036854775808 ≤ numL s.data.toList ∧ numL s.data.toList ≤ 9223372036854775807) : readP s = readR s := by
  have hsz : s.size = s.data.toList.length := Lib.size_eq s
  by_cases hA : ∃ m : Int, (-9223372036854775808 ≤ m ∧ m ≤ 9223372036854775807) ∧ s.data.toList = itoa m
  · obtain ⟨m, hm, e⟩ := hA
    have es : s = ⟨(itoa m).toArray⟩ := (list_of s _).2 e
    have h1 : showV (numV m) = (s, 0) := by rw [show_num, es]
    unfold readP readR readC
    rw [e, parse_itoa m hm, numL_itoa m hm]
    simp only [h1, if_true, readS]
  · have hno : ∀ m : Int, (-9223372036854775808 ≤ m ∧ m ≤ 9223372036854775807) → showV (numV m) ≠ (s, 0) := fun m hm h => by
      rw [show_num] at h
      exact hA ⟨m, hm, (list_of s _).1 (congrArg Prod.fst h).symm⟩
    have hR : readR s = if showV (txtV s) = (s, 0) then (txtV s, 0) else if showV (txtV (unqL s)) = (s, 0) then (txtV (unqL s), 0) else (noV, 10) := by
      unfold readR
      rw [if_neg (hno _ hn)]
    -- what a text that is shown as s can be
    have key : ∀ t, showV (txtV t) = (s, 0) → (nameV s = true ∧ t = s) ∨ (s.data.toList = quoteL t.data.toList) := fun t h => by
      obtain ⟨_, h | h⟩ := show_txt t s h
      · exact .inl ⟨h.2 ▸ h.1, h.2.symm⟩
      · exact .inr ((list_of s _).1 h.2)
    have self : s.data.toList ≠ quoteL s.data.toList := fun h => by
      have := quote_len s.data.toList
      rw [← h] at this; omega
    have unq : ∀ t, s.data.toList = quoteL t.data.toList → unqL s = t := fun t h => by
      unfold unqL
      rw [h, quote_drop, unq_flat]
    rw [hR]
    unfold readP readC
    cases hp : parseIntB 64 s.data.toList with
    | ok n =>
      simp only [readS]
      obtain ⟨c, r, ec, hc⟩ := parse_head _ _ hp
      have hb := parseIntB_bounds hp
      rw [if_neg (hno n (by simp at hb; omega))]
      have none : ∀ t, showV (txtV t) ≠ (s, 0) := fun t h => by
        rcases key t h with ⟨h, _⟩ | h
        · obtain ⟨c', r', e', h1, h2⟩ := name_first h
          rw [ec] at e'; injection e' with e1; subst e1; omega
        · rw [ec] at h
          simp only [quoteL] at h
          injection h with e1; subst e1; simp at hc
      rw [if_neg (none _), if_neg (none _)]
    | «syntax» => exact rest s key self unq
    | range => exact rest s key self unq
where
  rest (s : ByteArray) (key : ∀ t : ByteArray, showV (txtV t) = (s, 0) → (nameV s = true ∧ t = s) ∨ (s.data.toList = quoteL t.data.toList)) (self : s.data.toList ≠ quoteL s.data.toList)
      (unq : ∀ t : ByteArray, s.data.toList = quoteL t.data.toList → unqL s = t) :
      readS s (readQ s) =
      if showV (txtV s) = (s, 0) then (txtV s, 0) else if showV (txtV (unqL s)) = (s, 0) then (txtV (unqL s), 0) else (noV, 10) := by
    have hsz : s.size = s.data.toList.length := Lib.size_eq s
    unfold readQ
    have said : ∀ t : ByteArray, s.data.toList = quoteL t.data.toList → saidS ((s.data.toList.drop 1).take (s.size - 2)) = some t.data.toList := fun t h => by
      rw [hsz, h, quote_inner, said_flat]
    by_cases hq : inQ s.data.toList = true
    · rw [if_pos hq]
      have notname : nameV s = false := by
        cases hn : nameV s with
        | false => rfl
        | true =>
          obtain ⟨c, r, e, h1, h2⟩ := name_first hn
          rw [e] at hq
          simp [inQ] at hq
          omega
      have no1 : showV (txtV s) ≠ (s, 0) := fun h => by
        rcases key s h with ⟨h, _⟩ | h
        · rw [notname] at h; cases h
        · exact self h
      rw [if_neg no1]
      have hu : ∀ t, showV (txtV t) = (s, 0) → s.data.toList = quoteL t.data.toList := fun t h => by
        rcases key t h with ⟨h, _⟩ | h
        · rw [notname] at h; cases h
        · exact h
      cases hs : saidS ((s.data.toList.drop 1).take (s.size - 2)) with
      | none =>
        simp only [Option.map_none, readS]
        rw [if_neg fun h => by rw [said _ (hu _ h)] at hs; cases hs]
      | some t =>
        simp only [Option.map_some, readS]
        by_cases ht : showV (txtV ⟨t.toArray⟩) = (s, 0)
        · have := unq _ (hu _ ht)
          rw [if_pos ht, this, if_pos ht]
        · rw [if_neg ht, if_neg fun h => ?_]
          have := said _ (hu _ h)
          rw [hs] at this
          have e : t = (unqL s).data.toList := Option.some.inj this
          apply ht
          rw [show (⟨t.toArray⟩ : ByteArray) = unqL s from ((list_of _ _).2 e.symm).symm]
          exact h
    · rw [if_neg hq]
      simp only [readS]
      by_cases h1 : showV (txtV s) = (s, 0)
      · rw [if_pos h1, if_pos h1]
      · rw [if_neg h1, if_neg h1, if_neg fun h => ?_]
        rcases key _ h with ⟨_, h2⟩ | h2
        · rw [h2] at h; exact h1 h
        · rw [h2] at hq; exact hq (quote_inQ _)
end Go.Proofs.Ytkdnplebgmmclaa
/- Read undoes Show, and Show Read: plain laws (no program walked). -/
namespace Go.Proofs.Ytkdnplebgmmclaa
open Go.RowKit Go.Lib
set_option linter.unusedSimpArgs false
set_option linter.unusedVariables false

theorem dec_pr (u : Nat) : ∀ b ∈ decDigits u, 32 ≤ b.toNat ∧ b.toNat ≤ 126 := by
  induction u using Nat.strongRecOn with
  | _ u ih =>
    intro b hb
    by_cases h : u < 10
    · rw [decDigits, dif_pos h] at hb
      simp only [List.mem_singleton] at hb
      subst hb
      rw [dig_nat u h]; omega
    · rw [decDigits, dif_neg h, List.mem_append] at hb
      rcases hb with hb | hb
      · exact ih (u / 10) (by omega) b hb
      · simp only [List.mem_singleton] at hb
        subst hb
        rw [dig_nat _ (by omega)]; omega
theorem dec_len : ∀ (k u : Nat), u < 10 ^ k → (decDigits u).length ≤ k + 1
  | 0, u, h => by rw [decDigits, dif_pos (by simp at h; omega)]; simp
  | k + 1, u, h => by
    by_cases h1 : u < 10
    · rw [decDigits, dif_pos h1]; simp
    · rw [decDigits, dif_neg h1]
      have := dec_len k (u / 10) (by rw [Nat.pow_succ] at h; omega)
      simp; omega
theorem itoa_pr (n : Int) : ∀ b ∈ itoa n, 32 ≤ b.toNat ∧ b.toNat ≤ 126 := by
  unfold itoa
  split
  · intro b hb
    rw [List.mem_cons] at hb
    rcases hb with rfl | hb
    · simp
    · exact dec_pr _ b hb
  · exact dec_pr _
theorem itoa_len (n : Int) (h : -9223372036854775808 ≤ n ∧ n ≤ 9223372036854775807) : (itoa n).length ≤ 30 := by
  unfold itoa
  split
  · have := dec_len 20 n.natAbs (by omega)
    simp; omega
  · have := dec_len 20 n.toNat (by omega)
    omega
theorem itoa_head (n : Int) : ∃ c r, itoa n = c :: r ∧ c.toNat ≤ 57 ∧ c.toNat ≠ 34 := by
  unfold itoa
  split
  · exact ⟨45, _, rfl, by simp, by simp⟩
  · obtain ⟨d, r, e, hd⟩ := dec_head n.toNat
    exact ⟨_, _, e, by rw [dig_nat d hd]; omega, by rw [dig_nat d hd]; omega⟩
theorem hx_pr (n : Nat) (h : n < 16) : 32 ≤ (hx n).toNat ∧ (hx n).toNat ≤ 126 := by
  rw [hx_nat n h]; split <;> omega
theorem esc_pr (c : UInt8) : ∀ b ∈ esc c, 32 ≤ b.toNat ∧ b.toNat ≤ 126 := by
  have hc := c.toNat_lt
  unfold esc
  by_cases h1 : c.toNat = 10
  · rw [if_pos h1]; intro b hb; simp at hb; rcases hb with rfl | rfl <;> simp
  · rw [if_neg h1]
    by_cases h2 : c.toNat = 34 ∨ c.toNat = 92
    · rw [if_pos h2]; intro b hb; simp at hb
      rcases hb with rfl | rfl
      · simp
      · omega
    · rw [if_neg h2]
      by_cases h3 : 32 ≤ c.toNat ∧ c.toNat ≤ 126
      · rw [if_pos h3]; intro b hb; simp at hb; subst hb; exact h3
      · rw [if_neg h3]; intro b hb
        simp only [List.mem_cons, List.not_mem_nil, or_false] at hb
        rcases hb with rfl | rfl | rfl | rfl
        · simp
        · simp
        · exact hx_pr _ (by omega)
        · exact hx_pr _ (by omega)
theorem quote_pr (t : List UInt8) : ∀ b ∈ quoteL t, 32 ≤ b.toNat ∧ b.toNat ≤ 126 := by
  intro b hb
  unfold quoteL at hb
  simp only [List.mem_cons, List.mem_append, List.mem_flatMap, List.not_mem_nil, or_false] at hb
  rcases hb with rfl | ⟨c, _, hb⟩ | rfl
  · simp
  · exact esc_pr c b hb
  · simp
theorem name_pr {s : ByteArray} (h : nameV s = true) : ∀ b ∈ s.data.toList, 32 ≤ b.toNat ∧ b.toNat ≤ 126 := by
  have h2 : s.data.toList.all (fun b => letterN b.toNat) = true := by
    unfold nameV at h
    simp only [Bool.and_eq_true] at h
    exact h.1.2
  intro b hb
  have := List.all_eq_true.1 h2 b hb
  simp [letterN] at this
  omega

theorem chk_cases (x : V) (h : chk x.k x.n x.s = 0) : x = numV x.n ∨ (x = txtV x.s ∧ x.s.size ≤ 200) := by
  obtain ⟨k, n, s⟩ := x
  unfold chk at h
  by_cases c1 : (k == 1) = true ∧ s.toList.isEmpty = true
  · left
    have hk : k = 1 := by simpa using c1.1
    have hs : s = ⟨#[]⟩ := by
      rw [list_of s []]
      have := c1.2
      rw [List.isEmpty_iff, ByteArray.toList_eq] at this
      exact this
    subst hk hs; rfl
  · rw [if_neg c1] at h
    by_cases c2 : (k == 2) = true ∧ n = 0 ∧ s.size ≤ 200
    · right
      have hk : k = 2 := by simpa using c2.1
      have hn := c2.2.1
      subst hk hn
      exact ⟨rfl, c2.2.2⟩
    · rw [if_neg c2] at h; cases h
theorem show_chk (x : V) (t : ByteArray) (h : showV x = (t, 0)) : chk x.k x.n x.s = 0 := by
  unfold showV at h
  by_cases c : chk x.k x.n x.s ≠ 0
  · rw [if_pos c] at h
    have := congrArg Prod.snd h
    simp at this
  · simpa using c
theorem show_err (x : V) (h : chk x.k x.n x.s ≠ 0) : showV x = (⟨#[]⟩, 10) := by
  unfold showV; rw [if_pos h]
theorem chk_ten (k n : Int) (s : ByteArray) (h : chk k n s ≠ 0) : chk k n s = 10 := by
  unfold chk at h ⊢
  (repeat' split) <;> simp_all

theorem show_ok (x : V) (hx : x.ok) (h : chk x.k x.n x.s = 0) : ∃ t : ByteArray, showV x = (t, 0) ∧ readR t = (x, 0) ∧ 0 < t.size ∧ t.size ≤ 1000 ∧ ∀ b ∈ t.data.toList, 32 ≤ b.toNat ∧ b.toNat ≤ 126 := by
  have hn : -9223372036854775808 ≤ x.n ∧ x.n ≤ 9223372036854775807 := by simpa [Lit.wf, IntKind.min, IntKind.max, IntKind.signed, IntKind.bits] using hx.2.1
  rcases chk_cases x h with e | ⟨e, hs⟩
  · rw [e]
    generalize x.n = n at hn
    refine ⟨_, show_num n, ?_, ?_, ?_, ?_⟩
    · unfold readR
      simp only [List.toList_toArray, numL_itoa n hn]
      rw [if_pos (show_num n)]
    · rw [Lib.size_eq]
      obtain ⟨c, r, e, _⟩ := itoa_head n
      simp [e]
    · rw [Lib.size_eq]
      have := itoa_len n hn
      simp only [List.toList_toArray]; omega
    · simp only [List.toList_toArray]
      exact itoa_pr n
  · rw [e]
    generalize x.s = s at hs
    have hnum : ∀ (m : Int) (t : ByteArray) (c : UInt8) (r : List UInt8), t.data.toList = c :: r → (57 < c.toNat ∨ c.toNat = 34) → showV (numV m) ≠ (t, 0) := fun m t c r e' hc h => by
      rw [show_num] at h
      have h1 := (list_of t _).1 (congrArg Prod.fst h).symm
      obtain ⟨c', r', e2, h3, h4⟩ := itoa_head m
      rw [e', e2] at h1
      injection h1 with h1 h2
      subst h1; omega
    cases hname : nameV s with
    | true =>
      have hsh : showV (txtV s) = (s, 0) := by
        unfold showV
        rw [if_neg (by simp [txtV, chk, hs]), if_neg (show ¬ (txtV s).k = 1 by simp [txtV]), if_pos (show nameV (txtV s).s = true from hname)]
        rfl
      obtain ⟨c, r, ec, h1, h2⟩ := name_first hname
      refine ⟨s, hsh, ?_, ?_, by omega, name_pr hname⟩
      · unfold readR
        rw [if_neg (hnum _ s c r ec (.inl (by omega))), if_pos hsh]
      · rw [Lib.size_eq, ec]; simp
    | false =>
      obtain ⟨t, ht⟩ : ∃ t : ByteArray, (⟨(quoteL s.data.toList).toArray⟩ : ByteArray) = t := ⟨_, rfl⟩
      have hl : t.data.toList = quoteL s.data.toList := (list_of t _).1 ht.symm
      have hsh : showV (txtV s) = (t, 0) := by
        unfold showV
        rw [if_neg (by simp [txtV, chk, hs]), if_neg (show ¬ (txtV s).k = 1 by simp [txtV]), if_neg (show ¬ nameV (txtV s).s = true by rw [show (txtV s).s = s from rfl, hname]; decide)]
        exact congrArg (·, 0) ht
      have hsz : t.size ≤ 1000 ∧ 0 < t.size := by
        rw [Lib.size_eq, hl]
        have := flat_len s.data.toList
        rw [Lib.size_eq] at hs
        simp only [quoteL, List.length_cons, List.length_append, List.length_nil]; omega
      refine ⟨t, hsh, ?_, hsz.2, hsz.1, hl ▸ quote_pr _⟩
      have h1 : showV (numV (numL t.data.toList)) ≠ (t, 0) := hnum _ t 34 _ (by rw [hl]; rfl) (.inr rfl)
      have h2 : showV (txtV t) ≠ (t, 0) := fun h => by
        obtain ⟨_, h | h⟩ := show_txt t t h
        · obtain ⟨c, r, ec, h1, h2⟩ := name_first h.1
          rw [hl] at ec
          injection ec with e1
          subst e1; simp at h1
        · have := (list_of t _).1 h.2
          have h3 := quote_len t.data.toList
          rw [← this] at h3; omega
      have h3 : unqL t = s := by
        unfold unqL
        rw [hl, quote_drop, unq_flat]
      unfold readR
      rw [if_neg h1, if_neg h2, h3, if_pos hsh]
theorem read_cases (s : ByteArray) : (∃ y, readR s = (y, 0) ∧ showV y = (s, 0) ∧ chk y.k y.n y.s = 0) ∨ readR s = (noV, 10) := by
  unfold readR
  split
  · rename_i h; exact .inl ⟨_, rfl, h, show_chk _ _ h⟩
  · split
    · rename_i h; exact .inl ⟨_, rfl, h, show_chk _ _ h⟩
    · split
      · rename_i h; exact .inl ⟨_, rfl, h, show_chk _ _ h⟩
      · exact .inr rfl
end Go.Proofs.Ytkdnplebgmmclaa
/- Copies of lists of facts, a mark behind each: TwinFacts, LeftFacts. -/
namespace Go.Proofs.Ytkdnplebgmmclaa
open Go.RowKit
set_option linter.unusedSimpArgs false
set_option linter.unusedVariables false

def wordS : ByteArray := ⟨#[35]⟩ ++ ⟨(Lib.itoa 777777).toArray⟩
/-! ### Facts -/
def RGw (B : Nat) (w : World) (cs : List Value) (x : Fc) : Prop := ∃ u, cs = [.string x.p, u] ∧ TwinR B w u x.a
theorem RGw.stays (B : Nat) : Stays (RGw B) := fun _ _ _ _ hf ⟨u, h1, h2⟩ => ⟨u, h1, h2.fut hf⟩
def markGR (_ : World) (cs : List Value) : Prop := cs = [.string wordS, .slice none 0 0]
theorem markGR.fut : ∀ w w' cs, Fut w w' → markGR w cs → markGR w' cs := fun _ _ _ _ h => h
abbrev TwinG : Nat → World → Value → List Fc → Prop := TwinE 2 33 [.string ⟨#[]⟩, .slice none 0 0] RGw markGR
theorem TwinG.keep {B : Nat} {w w' : World} {v : Value} {ts : List Fc} (h : TwinG B w v ts) (hf : Fut w w') : TwinG B w' v ts := TwinE.fut RGw.stays markGR.fut h hf
theorem TwinG.facs {B : Nat} {w : World} {v : Value} {ts : List Fc} (h : TwinG B w v ts) (hok : ∀ t ∈ ts, t.p.size ≤ 140737488351232 ∧ ∀ x ∈ t.a, x.ok) (hl : ∀ t ∈ ts, t.a.length < 4398046511104) (hm : ts.length < 4398046511104) : FacsG w v ts :=
  TwinE.rep h (fun g cs x hx ⟨u, h1, h2⟩ => ⟨u, h1, (hok x hx).1, h2.vals (hok x hx).2 (hl x hx)⟩) (by omega)
theorem FacsG.oks {w : World} {v : Value} {ts : List Fc} (h : FacsG w v ts) : ∀ t ∈ ts, t.p.size ≤ 140737488351232 ∧ ∀ x ∈ t.a, x.ok := by
  obtain ⟨A, cap, _, _, _, h3⟩ := h
  intro t ht
  obtain ⟨i, hi⟩ := List.getElem?_of_mem ht
  obtain ⟨_, _, _, _, _, _, u, _, hp, hu⟩ := h3 i t hi
  exact ⟨hp, hu.oks⟩

end Go.Proofs.Ytkdnplebgmmclaa
