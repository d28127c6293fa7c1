/- Range, RowW, Rel0, RelN, RelR, Graph0, OwnAt -/
import Derived.RangeFuncNested
import Derived.RangeFuncLeaves
import Derived.Deep.MidRow
import Derived.Test.YtcpphabehpbmlaaProg
import Derived.Lib.Hide
import Derived.WalkSpells
import Derived.WalkLawsBesides
import Derived.WalkKit
import Derived.Laws.Pointers
import Derived.Deep.QuietTactic
import Derived.BigQuiet
import Derived.Maps.AppendAt
import Derived.Test.YtcpphabehpbmlaaC03
/- A range over a function: what an iterator promises, round by round; the statement's law. No program. -/
namespace Go.Proofs.Ytcpphabehpbmlaa
open Go.RowKit
set_option linter.unusedSimpArgs false
set_option linter.unusedVariables false

/-- What lay from block a to block b lies there still. -/
def Mid (a b : Nat) (W W' : World) : Prop := W.heap.size ≤ W'.heap.size ∧ ∀ k, a ≤ k → k < b → W'.heap[k]? = W.heap[k]?
theorem Mid.refl (a b : Nat) (W : World) : Mid a b W W := ⟨Nat.le_refl _, fun _ _ _ => rfl⟩
theorem Mid.trans {a b : Nat} {A B C : World} (h : Mid a b A B) (k : Mid a b B C) : Mid a b A C := ⟨Nat.le_trans h.1 k.1, fun i h1 h2 => (k.2 i h1 h2).trans (h.2 i h1 h2)⟩
theorem Mid.of_fut {a b : Nat} {W W' : World} (h : Fut W W') (hb : b ≤ W.heap.size) : Mid a b W W' := ⟨h.size, fun k _ h2 => Below.block h k (by omega)⟩
theorem Mid.less {a b a' b' : Nat} {W W' : World} (h : Mid a b W W') (h1 : a ≤ a') (h2 : b' ≤ b) : Mid a' b' W W' := ⟨h.1, fun k h3 h4 => h.2 k (by omega) (by omega)⟩
theorem Mid.grown {a b : Nat} {W W' : World} {row : Option Nat} (hg : W.grownBy W' row) (hb : b ≤ W.heap.size) (hr : ∀ k, row = some k → k < a ∨ b ≤ k) : Mid a b W W' :=
  ⟨hg.size, fun k h1 h2 => hg.block k (by omega) (fun e => by have := hr k e.symm; omega)⟩

/-- An iterator: it asks for the rounds 0, 1, .., N - 1, round k with 'args k'; it makes memory of its own and turns nothing else; of its own memory it wants each round to keep what was made ahead of the first one. -/
def IterAt (P : Program) (gf : Nat) (lb : Array Value) (N : Nat) (args : Nat → Array Value) (w : World) : Prop :=
  ∀ (l : Nat) (J : Nat → Nat → World → Prop) (Jx : Nat → World → Prop),
    (∀ w1, Fut w w1 → J w1.heap.size 0 w1) → (∀ s k W W', Fut W W' → J s k W → J s k W') →
    (∀ s k W, w.heap.size ≤ s → s ≤ W.heap.size → k < N → J s k W → YieldAt Fence.wide 2 P l (args k) W fun e W' =>
      (e = .returned (.bool true) ∧ J s (k + 1) W' ∧ Mid w.heap.size s W W') ∨ (e = .returned (.bool false) ∧ Jx s W')) →
    Calls P gf (#[.func (.yield l) #[] #[]] ++ lb) w fun e W' => (∃ v, e = .returned v) ∧ ((∃ s, J s N W') ∨ ∃ s, Jx s W')

/-- How a round's body may be left. -/
def roundOut (a s : Nat) (I : World → Prop) (Ix : Code → World → Prop) (W : World) : Exit → Act → World → Prop
  | .normal, _, W' => Mid a s W W' ∧ I W'
  | .ret, _, W' => Mid a s W W' ∧ Ix .ret W'
  | .exit id, _, W' => Mid a s W W' ∧ Ix (.exit id) W'
  | .goto t, _, W' => Mid a s W W' ∧ Ix (.goto t) W'
  | .panic _, _, _ => False
  | .outgrown, _, _ => False

theorem wp_range {P : Program} {g : Operand} {ps : Array Tmp} {assign body : Code} {Q : Exit → Act → World → Prop} {a : Act} {w : World} {gf : Nat} {lb : Array Value}
    (hg : a.eval g = .func (.func gf) #[] lb) (eg : ∀ args w, (callFunc gf args).run P w = .ok (.enter gf args) w) {N : Nat} {args : Nat → Array Value}
    (hit : ∀ w1, Fut w w1 → IterAt P gf lb N args w1) (hps : ∀ k, k < N → (args k).size = ps.size)
    (I : Nat → Nat → World → Prop) (Ix : Code → Nat → World → Prop)
    (hIf : ∀ s k W W', Fut W W' → I s k W → I s k W') (hI : ∀ s k W l o, w.heap.size ≤ l → l < w.heap.size + 2 → w.heap.size + 2 ≤ s → I s k W → I s k (W.putObj l o)) (hIx : ∀ c s W l o, w.heap.size ≤ l → l < w.heap.size + 2 → w.heap.size + 2 ≤ s → Ix c s W → Ix c s (W.putObj l o))
    (h0 : ∀ w1, Fut w w1 → w.heap.size + 2 ≤ w1.heap.size → I w1.heap.size 0 w1)
    (hbody : ∀ l s k W, w.heap.size ≤ l → l < w.heap.size + 2 → w.heap.size + 2 ≤ s → s ≤ W.heap.size → k < N → I s k W → (∃ r, W.heap[l]? = some (.loop r)) →
      assign.wpIn (Fence.wide.inRound l) 2 P (Exit.then (fun a₁ W₁ => Mid w.heap.size s W W₁ ∧ ∀ o, body.wpIn (Fence.wide.inRound l) 2 P (roundOut w.heap.size s (I s (k + 1)) (fun c => Ix c s) (W₁.putObj l o)) a₁ (W₁.putObj l o)) (fun _ _ _ => False))
        { tmps := (ps.zip (args k)).foldl (fun t (p, v) => t.setIfInBounds p v) a.tmps, defers := [] } W)
    (hdone : ∀ s W, w.heap.size + 2 ≤ s → I s N W → W.heap[w.heap.size]? = some (.deferred (some [])) → Q .normal { a with defers := { target := .collected w.heap.size, args := #[] } :: a.defers } W)
    (hstop : ∀ s c W, w.heap.size + 2 ≤ s → Ix c s W → W.heap[w.heap.size]? = some (.deferred (some [])) → c.wp P Q { a with defers := { target := .collected w.heap.size, args := #[] } :: a.defers } W) :
    (Code.rangeFunc g ps assign body).wp P Q a w := by
  refine (wpIn_wide (n := 3)).1 (wpIn_rangeFunc ?_)
  intro fn hfn
  obtain ⟨rec, hrec⟩ : ∃ rec : LoopState → Option Code → Loop, rec = fun st pe => { state := st, pending := pe, fn, tmps := a.tmps, params := ps, assign, body, defers := w.heap.size } := ⟨_, rfl⟩
  obtain ⟨W1, hW1⟩ : ∃ W1, (w.alloc (.deferred (some []))).alloc (.loop (rec .ready none)) = W1 := ⟨_, rfl⟩
  have hL1 : W1.heap[w.heap.size + 1]? = some (.loop (rec .ready none)) := by
    rw [← hW1]; have := World.alloc_heap_new (w.alloc (.deferred (some []))) (.loop (rec .ready none)); rwa [World.size_alloc] at this
  have hK1 : W1.heap[w.heap.size]? = some (.deferred (some [])) := by
    rw [← hW1]; exact (Below.heap_alloc _ _ _ (by simp)).trans (World.alloc_heap_new w _)
  have hf1 : Fut w W1 := by rw [← hW1]; exact (Fut.alloc _ _).trans (Fut.alloc _ _)
  have hs1 : W1.heap.size = w.heap.size + 2 := by rw [← hW1]; simp
  refine ⟨w.heap.size + 1, [{ target := .collected w.heap.size, args := #[] }], W1, { target := .fn (.func gf) lb, args := #[.func (.yield (w.heap.size + 1)) #[] #[]] }, W1, gf,
    #[.func (.yield (w.heap.size + 1)) #[] #[]] ++ lb, W1, ?_, ?_, ?_, ?_, fun h => by simp [Fence.wide] at h, ?_⟩
  · rw [← hW1, hrec]; exact run_enterLoop_outer _ _ _ _ _
  · simp only [resolve, hg]
    simp [go_sem]
  · intro f' hf'; trivial
  · simp [invoke, go_sem, eg]
  · refine callsIn_wide.2 ?_
    refine (hit W1 hf1 (w.heap.size + 1)
      (fun s k W => I (max s (w.heap.size + 2)) k W ∧ W.heap[w.heap.size + 1]? = some (.loop (rec .ready none)) ∧ W.heap[w.heap.size]? = some (.deferred (some [])))
      (fun s W => ∃ c, Ix c (max s (w.heap.size + 2)) W ∧ W.heap[w.heap.size + 1]? = some (.loop (rec .done (some c))) ∧ W.heap[w.heap.size]? = some (.deferred (some []))) ?_ (fun s k W W' hf hj => ⟨hIf _ _ _ _ hf hj.1, hf.block hj.2.1, hf.block hj.2.2⟩) ?_).mono ?_
    · intro w1 hf
      have hsz := hf.size
      refine ⟨?_, hf.block hL1, hf.block hK1⟩
      rw [Nat.max_eq_left (by omega)]
      exact h0 w1 (hf1.trans hf) (by omega)
    · rintro s k W hs hsW hk ⟨hi, hl, hd⟩
      rw [hs1] at hs
      rw [Nat.max_eq_left hs] at hi
      have hlt : w.heap.size + 1 < W.heap.size := (Array.getElem?_eq_some_iff.1 hl).1
      have hy := run_yield (P := P) (args := args k) hl (by rw [hrec]; exact hps k hk)
      rw [hrec] at hy
      refine ⟨fn, _, assign, body, hy, roundIn_of_wpIn hfn ?_⟩
      clear hy
      refine wpIn_mono (hbody (w.heap.size + 1) s k W (by omega) (by omega) hs hsW hk hi ⟨_, hl⟩) ?_
      intro e a1 Wa hp
      cases e with
      | normal =>
        obtain ⟨hm, hp⟩ := hp
        have hla : Wa.heap[w.heap.size + 1]? = some (.loop (rec .ready none)) := (hm.2 _ (by omega) (by omega)).trans hl
        have hda : Wa.heap[w.heap.size]? = some (.deferred (some [])) := (hm.2 _ (by omega) (by omega)).trans hd
        have hlta : w.heap.size + 1 < Wa.heap.size := (Array.getElem?_eq_some_iff.1 hla).1
        refine ⟨_, run_beginRound hla (by rw [hrec]), ?_⟩
        have hl2 : (Wa.putObj (w.heap.size + 1) (.loop { rec .ready none with state := .busy })).heap[w.heap.size + 1]? = some (.loop { rec .ready none with state := .busy }) := World.putObj_heap_same hlta
        have hd2 : (Wa.putObj (w.heap.size + 1) (.loop { rec .ready none with state := .busy })).heap[w.heap.size]? = some (.deferred (some [])) := (World.putObj_heap_other (by omega)).trans hda
        refine wpIn_mono (hp _) ?_
        have fin : ∀ (jump : Option Code) (W3 : World), Mid w.heap.size s (Wa.putObj (w.heap.size + 1) (.loop { rec .ready none with state := .busy })) W3 →
            (Instr.endRound (w.heap.size + 1) jump).run P W3 = .ok (.bool jump.isNone) (W3.putObj (w.heap.size + 1) (.loop (rec (if jump.isNone then .ready else .done) jump))) ∧
            (W3.putObj (w.heap.size + 1) (.loop (rec (if jump.isNone then .ready else .done) jump))).heap[w.heap.size + 1]? = some (.loop (rec (if jump.isNone then .ready else .done) jump)) ∧
            (W3.putObj (w.heap.size + 1) (.loop (rec (if jump.isNone then .ready else .done) jump))).heap[w.heap.size]? = some (.deferred (some [])) := fun jump W3 hk3 => by
          have hl3 := (hk3.2 (w.heap.size + 1) (by omega) (by omega)).trans hl2
          have hd3 := (hk3.2 w.heap.size (by omega) (by omega)).trans hd2
          have := run_endRound (P := P) jump hl3
          rw [hrec] at this ⊢
          exact ⟨this, World.putObj_heap_same (Array.getElem?_eq_some_iff.1 hl3).1, (World.putObj_heap_other (by omega)).trans hd3⟩
        rintro e a3 W3 hp
        have hput : ∀ o o' : Obj, Mid w.heap.size s (Wa.putObj (w.heap.size + 1) o) W3 → Mid W1.heap.size s W (W3.putObj (w.heap.size + 1) o') := fun o o' hm3 =>
          ⟨by rw [World.putObj_size]; have h1 := hm3.1; rw [World.putObj_size] at h1; exact Nat.le_trans hm.1 h1, fun j h1 h2 => by
            rw [hs1] at h1
            rw [World.putObj_heap_other (by omega), hm3.2 j (by omega) h2, World.putObj_heap_other (by omega), hm.2 j (by omega) h2]⟩
        cases e with
        | normal =>
          obtain ⟨hm3, hi3⟩ := hp
          obtain ⟨hr, hl4, hd4⟩ := fin none W3 hm3
          exact ⟨_, _, hr, .inl ⟨rfl, ⟨by rw [Nat.max_eq_left hs]; exact hI s _ _ _ _ (by omega) (by omega) hs hi3, hl4, hd4⟩, hput _ _ hm3⟩⟩
        | ret =>
          obtain ⟨hm3, hi3⟩ := hp
          obtain ⟨hr, hl4, hd4⟩ := fin (some .ret) W3 hm3
          exact ⟨_, _, hr, .inr ⟨rfl, .ret, by rw [Nat.max_eq_left hs]; exact hIx _ s _ _ _ (by omega) (by omega) hs hi3, hl4, hd4⟩⟩
        | exit id =>
          obtain ⟨hm3, hi3⟩ := hp
          obtain ⟨hr, hl4, hd4⟩ := fin (some (.exit id)) W3 hm3
          exact ⟨_, _, hr, .inr ⟨rfl, .exit id, by rw [Nat.max_eq_left hs]; exact hIx _ s _ _ _ (by omega) (by omega) hs hi3, hl4, hd4⟩⟩
        | goto t =>
          obtain ⟨hm3, hi3⟩ := hp
          obtain ⟨hr, hl4, hd4⟩ := fin (some (.goto t)) W3 hm3
          exact ⟨_, _, hr, .inr ⟨rfl, .goto t, by rw [Nat.max_eq_left hs]; exact hIx _ s _ _ _ (by omega) (by omega) hs hi3, hl4, hd4⟩⟩
        | panic ch => exact hp.elim
        | outgrown => exact hp.elim
      | ret => exact hp.elim
      | exit id => exact hp.elim
      | goto t => exact hp.elim
      | panic ch => exact hp.elim
      | outgrown => exact hp.elim
    · rintro e W2 ⟨⟨v, rfl⟩, (⟨s, hi, hl, hd⟩ | ⟨s, c, hi, hl, hd⟩)⟩
      · exact ⟨none, _, by have := run_endLoop (P := P) hl (by rw [hrec]; simp); rw [hrec] at this; exact this, hdone _ _ (Nat.le_max_right _ _) (hI _ _ _ _ _ (by omega) (by omega) (Nat.le_max_right _ _) hi) ((World.putObj_heap_other (by omega)).trans hd)⟩
      · exact ⟨some c, _, by have := run_endLoop (P := P) hl (by rw [hrec]; simp); rw [hrec] at this; exact this, (wpIn_wide (n := 3)).2 (hstop _ c _ (Nat.le_max_right _ _) (hIx _ _ _ _ _ (by omega) (by omega) (Nat.le_max_right _ _) hi) ((World.putObj_heap_other (by omega)).trans hd))⟩
end Go.Proofs.Ytcpphabehpbmlaa
/- Rows in memory: read and written whole; what may have turned. No program. -/
namespace Go.Proofs.Ytcpphabehpbmlaa
open Go.RowKit Go.WideMaps
set_option linter.unusedSimpArgs false
set_option linter.unusedVariables false

/-! ### What may have turned -/
/-- Nothing but the blocks of S has turned. -/
structure Only (S : Nat → Prop) (w w' : World) : Prop where
  os : w'.os = w.os
  tape : w'.tape = w.tape
  output : w'.output = w.output
  size : w.heap.size ≤ w'.heap.size
  block : ∀ k, k < w.heap.size → ¬ S k → w'.heap[k]? = w.heap[k]?
theorem Only.fut {S : Nat → Prop} {w w' : World} (h : Fut w w') : Only S w w' := ⟨h.os, h.tape, h.output, h.size, fun k hk _ => Below.block h k hk⟩
theorem Only.toFut {S : Nat → Prop} {w w' : World} (h : Only S w w') (hS : ∀ k, S k → w.heap.size ≤ k) : Fut w w' := ⟨h.os, h.tape, h.output, h.size, fun k hk => h.block k hk fun hs => by have := hS k hs; omega⟩
theorem Only.refl {S : Nat → Prop} (w : World) : Only S w w := Only.fut (Fut.refl w)
theorem Only.trans {S : Nat → Prop} {a b c : World} (h : Only S a b) (k : Only S b c) : Only S a c :=
  ⟨k.os.trans h.os, k.tape.trans h.tape, k.output.trans h.output, Nat.le_trans h.size k.size, fun i hi hn => (k.block i (Nat.lt_of_lt_of_le hi h.size) hn).trans (h.block i hi hn)⟩
theorem Only.mono {S S' : Nat → Prop} {w w' : World} (h : Only S w w') (hS : ∀ k, k < w.heap.size → S k → S' k) : Only S' w w' :=
  ⟨h.os, h.tape, h.output, h.size, fun k hk hn => h.block k hk fun hs => hn (hS k hk hs)⟩
/-- .. the second step turns what the first may turn, or what is new. -/
theorem Only.then {S S' : Nat → Prop} {a b c : World} (h : Only S a b) (k : Only S' b c) (hS : ∀ i, S' i → i < a.heap.size → S i) : Only S a c :=
  ⟨k.os.trans h.os, k.tape.trans h.tape, k.output.trans h.output, Nat.le_trans h.size k.size, fun i hi hn => (k.block i (Nat.lt_of_lt_of_le hi h.size) (fun hs => hn (hS i hs hi))).trans (h.block i hi hn)⟩
theorem Only.grown {S : Nat → Prop} {w w' : World} {row : Option Nat} (hg : w.grownBy w' row) (hS : ∀ k, row = some k → S k) : Only S w w' :=
  ⟨hg.os, hg.tape, hg.output, hg.size, fun k hk hn => hg.block k hk (fun e => hn (hS k e.symm))⟩
theorem Only.set {S : Nat → Prop} {w : World} (p : Addr) (v : Value) (hS : S p.block) : Only S w (w.setCell p v) :=
  ⟨rfl, rfl, rfl, by show _ ≤ (w.heap.modify _ _).size; rw [Array.size_modify]; exact Nat.le_refl _, fun k hk hn => Below.heap_setCell w p v k (fun e => hn (e ▸ hS))⟩
theorem Only.put {S : Nat → Prop} {w : World} (g : Nat) (o : Obj) (hS : S g) : Only S w (w.putObj g o) :=
  ⟨rfl, rfl, rfl, by simp [World.putObj], fun k hk hn => World.putObj_heap_other (fun e => hn (e ▸ hS))⟩
theorem Only.keeps {S : Nat → Prop} {w w' : World} (h : Only S w w') {k : Nat} {o : Obj} (ho : w.heap[k]? = some o) (hn : ¬ S k) : w'.heap[k]? = some o :=
  (h.block k (Array.getElem?_eq_some_iff.1 ho).1 hn).trans ho
theorem Only.cell {S : Nat → Prop} {w w' : World} (h : Only S w w') {p : Addr} {v : Value} (hc : w.cell? p = some v) (hn : ¬ S p.block) : w'.cell? p = some v :=
  (World.cell?_of_block (h.block p.block (lt_of_cell hc) hn)).trans hc

/-! ### Rows in memory -/
/-- The row x lies in block b from offset off on. -/
def RowAt (w : World) (b off : Nat) (x : Rw) : Prop := Rw.ok x ∧ ∀ j c, (Rw.cells x)[j]? = some c → w.cell? ⟨b, off + j, none⟩ = some c
theorem RowAt.fut {w w' : World} {b off : Nat} {x : Rw} (h : RowAt w b off x) (hf : Fut w w') : RowAt w' b off x := ⟨h.1, fun j c hj => hf.cell (h.2 j c hj)⟩
theorem RowAt.only {S : Nat → Prop} {w w' : World} {b off : Nat} {x : Rw} (h : RowAt w b off x) (ho : Only S w w') (hn : ¬ S b) : RowAt w' b off x := ⟨h.1, fun j c hj => ho.cell (h.2 j c hj) hn⟩
theorem RowAt.of_block {w : World} {b : Nat} {t : TypeId} {fr : Nat × Nat} {x : Rw} (hx : Rw.ok x) (h : w.heap[b]? = some (.cells (Rw.cells x).toArray t fr)) : RowAt w b 0 x := ⟨hx, fun j c hj => by
  rw [Nat.zero_add]; simp [World.cell?, h, hj]⟩
theorem RowAt.new (w : World) (t : TypeId) {x : Rw} (hx : Rw.ok x) : RowAt (w.alloc (.cells (Rw.cells x).toArray t)) w.heap.size 0 x := RowAt.of_block hx (heap_alloc_new w _)
/-- An element of a list of rows. -/
theorem rows_at {w : World} {A : Option Addr} {n cap M : Nat} {xs : List Rw} (h : SlRep 24 M RR w (.slice A n cap) xs) {k : Nat} (hk : k < xs.length) : ∃ b off, A = some ⟨b, off, none⟩ ∧ RowAt w b (off + k * 24) xs[k] := by
  obtain ⟨A1, cap1, hv, _, _, h3⟩ := h
  obtain ⟨b, off, cs, hA, hl, hc, hr⟩ := h3 k _ (List.getElem?_eq_getElem hk)
  injection hv with hv _ _
  refine ⟨b, off, hv.trans hA, hr.2, fun j c hj => ?_⟩
  rw [← hr.1] at hj
  rw [Nat.add_assoc]
  exact hc j c hj
theorem rows_ok {w : World} {v : Value} {M : Nat} {xs : List Rw} (h : SlRep 24 M RR w v xs) : ∀ x ∈ xs, Rw.ok x := by
  obtain ⟨A, cap, _, _, _, h3⟩ := h
  intro x hx
  obtain ⟨i, hi⟩ := List.getElem?_of_mem hx
  obtain ⟨_, _, _, _, _, _, hr⟩ := h3 i x hi
  exact hr.2

structure RowTy (P : Program) (k e : TypeId) : Prop where
  A : ArrKey P k e 24
  he : P.underlying e = some (.int .i32)
  hsz : ∃ m, P.types.size = m + 1
  hi : (P.info? k).map (·.size) = some 24
section
variable {P : Program} {k e : TypeId} {w : World} {b off : Nat} {r : Rw} {o : Oper} {a : Act}
theorem run_loadVar_R (T : RowTy P k e) (hr : RowAt w b off r) : (loadVar k ⟨b, off, none⟩).run P w = .ok (Rw.val r) w :=
  run_loadVar_mid w b off k (Rw.cells r) _ (fun j v hj => hr.2 j v hj) T.A.hu rfl (by rw [T.hi, Rw.cells_len hr.1])
theorem exec_load_R (T : RowTy P k e) (x : Operand) (ho : o.op = .load k x) (hx : a.eval x = .pointer (some ⟨b, off, none⟩)) (hr : RowAt w b off r) : (execOp a.eval o).run P w = .ok (.value (Rw.val r)) w := by
  unfold execOp
  simp only [ho, hx, Instr.loadAt, Instr.sureAddr, Sem.run_bind, Sem.run_pure, Result.andThen_ok, run_loadVar_R T hr]
theorem wpList_of_run {ops : Array Oper} {rest : List Oper} {Q : Exit → Act → World → Prop} {v : Value} {w' : World} (hgd : Region.wanted o (yielded ops a.tmps) = true)
    (hrun : (execOp a.eval o).run P w = .ok (.value v) w') (h : wpList P ops Q rest (a.put o.dst v) w') : wpList P ops Q (o :: rest) a w := by
  refine wpList_step fun K hK => ?_
  rw [if_pos hgd]
  unfold Oper.wp
  rw [hrun]
  exact hK _ _ h
theorem wpList_of_skip {ops : Array Oper} {rest : List Oper} {Q : Exit → Act → World → Prop} {w' : World} (hgd : Region.wanted o (yielded ops a.tmps) = true)
    (hrun : (execOp a.eval o).run P w = .ok .skip w') (h : wpList P ops Q rest (a.put o.dst undef) w') : wpList P ops Q (o :: rest) a w := by
  refine wpList_step fun K hK => ?_
  rw [if_pos hgd]
  unfold Oper.wp
  rw [hrun]
  exact hK _ _ h
theorem wpList_load_R {ops : Array Oper} {rest : List Oper} {Q : Exit → Act → World → Prop} (T : RowTy P k e) (hgd : Region.wanted o (yielded ops a.tmps) = true) (x : Operand) (ho : o.op = .load k x) (hx : a.eval x = .pointer (some ⟨b, off, none⟩)) (hr : RowAt w b off r)
    (h : wpList P ops Q rest (a.put o.dst (Rw.val r)) w) : wpList P ops Q (o :: rest) a w :=
  wpList_of_run hgd (exec_load_R T x ho hx hr) h

theorem setCells_put {t : TypeId} {fr : Nat × Nat} : ∀ (vs : List Value) (o : Nat) (w : World) (arr : Array Value), w.heap[b]? = some (.cells arr t fr) →
    ∃ arr', w.setCells b o vs = w.putObj b (.cells arr' t fr) ∧ arr'.size = arr.size ∧ ∀ j, arr'[j]? = if o ≤ j ∧ j < o + vs.length ∧ j < arr.size then vs[j - o]? else arr[j]?
  | [], o, w, arr, h => ⟨arr, by
      simp only [World.setCells, World.putObj]
      have hlt := (Array.getElem?_eq_some_iff.1 h)
      obtain ⟨hl, he⟩ := hlt
      have : w.heap.setIfInBounds b (.cells arr t fr) = w.heap := by
        refine Array.ext_getElem? fun i => ?_
        by_cases hi : i = b
        · subst hi; rw [h]; simp [hl]
        · rw [Array.getElem?_setIfInBounds_ne (Ne.symm hi)]
      rw [this], rfl, fun j => by rw [if_neg (by simp; omega)]⟩
  | v :: vs, o, w, arr, h => by
    have hs : (w.setCell ⟨b, o, none⟩ v).heap[b]? = some (.cells (arr.setIfInBounds o v) t fr) := by simp [World.setCell, Array.getElem?_modify, h]
    obtain ⟨arr', h1, h2, h3⟩ := setCells_put vs (o + 1) _ _ hs
    refine ⟨arr', ?_, by rw [h2]; simp, fun j => ?_⟩
    · simp only [World.setCells]
      rw [h1]
      simp only [World.putObj, World.setCell]
      congr 1
      refine Array.ext_getElem? fun i => ?_
      by_cases hi : i = b
      · subst hi
        have hl := (Array.getElem?_eq_some_iff.1 h).1
        simp [hl]
      · rw [Array.getElem?_setIfInBounds_ne (Ne.symm hi), Array.getElem?_setIfInBounds_ne (Ne.symm hi), Array.getElem?_modify, if_neg (Ne.symm hi)]
    · rw [h3]
      simp only [Array.size_setIfInBounds, List.length_cons]
      by_cases h4 : j = o
      · subst h4
        rw [if_neg (by omega)]
        by_cases h5 : j < arr.size
        · rw [if_pos (by omega)]; simp [h5]
        · rw [if_neg (by omega)]; simp [h5]
      · rw [Array.getElem?_setIfInBounds_ne (Ne.symm h4)]
        by_cases h5 : o + 1 ≤ j ∧ j < o + 1 + vs.length ∧ j < arr.size
        · rw [if_pos h5, if_pos (by omega), show j - o = (j - (o + 1)) + 1 by omega, List.getElem?_cons_succ]
        · rw [if_neg h5, if_neg (by omega)]
/-- A row is written over a block of 24 cells. -/
theorem exec_store_R (T : RowTy P k e) {t : TypeId} {arr : Array Value} (x y : Operand) (ho : o.op = .store k x y) (hx : a.eval x = .pointer (some ⟨b, 0, none⟩)) (hy : a.eval y = Rw.val r) (hb : w.heap[b]? = some (.cells arr t (0, 0))) (hs : arr.size = 24) (hr : Rw.ok r) :
    (execOp a.eval o).run P w = .ok .skip (w.putObj b (.cells (Rw.cells r).toArray t (0, 0))) := by
  have hl := Rw.cells_len hr
  have hsz : (Rw.cells r).toArray.size = 24 := by simpa using hl
  have h1 := run_storeVar_mid (P := P) w b 0 k (Rw.cells r).toArray (fun j hj => by
    rw [hsz] at hj
    refine ⟨?_, ?_⟩
    · rw [Nat.zero_add]; simp [World.cell?, hb]; try omega
    · simp [World.frozen?, hb]) (by rw [T.hi, hsz]) (all_oneCell_toArray fun v hv => RR.one w _ r ⟨rfl, hr⟩ v hv)
  obtain ⟨arr', h2, h3, h4⟩ := setCells_put (Rw.cells r) 0 w arr hb
  have e1 : arr' = (Rw.cells r).toArray := by
    refine Array.ext_getElem? fun j => ?_
    rw [h4]
    by_cases hj : j < 24
    · rw [if_pos (by omega)]; simp
    · rw [if_neg (by omega)]
      rw [Array.getElem?_eq_none (by omega), Array.getElem?_eq_none (by omega)]
  simp only at h1
  rw [h2, e1] at h1
  unfold execOp
  simp only [ho, hx, hy, Rw.val, Instr.storeAt, Instr.sureAddr, Sem.run_bind, Sem.run_pure, Result.andThen_ok, h1]
theorem putObj_alloc (w : World) (o o' : Obj) : (w.alloc o).putObj w.heap.size o' = w.alloc o' := by
  unfold World.putObj World.alloc
  congr 1
  refine Array.ext_getElem? fun j => ?_
  by_cases hj : j = w.heap.size
  · subst hj; simp
  · rw [Array.getElem?_setIfInBounds_ne (Ne.symm hj), Array.getElem?_push, Array.getElem?_push]
    simp [hj]
theorem wpList_store_R {ops : Array Oper} {rest : List Oper} {Q : Exit → Act → World → Prop} (T : RowTy P k e) (hgd : Region.wanted o (yielded ops a.tmps) = true) {t : TypeId} {arr : Array Value} (x y : Operand) (ho : o.op = .store k x y) (hx : a.eval x = .pointer (some ⟨b, 0, none⟩)) (hy : a.eval y = Rw.val r) (hb : w.heap[b]? = some (.cells arr t (0, 0))) (hs : arr.size = 24) (hr : Rw.ok r)
    (h : wpList P ops Q rest (a.put o.dst undef) (w.putObj b (.cells (Rw.cells r).toArray t (0, 0)))) : wpList P ops Q (o :: rest) a w :=
  wpList_of_skip hgd (exec_store_R T x y ho hx hy hb hs hr) h
/-- .. over one just made. -/
theorem wpList_store_new {ops : Array Oper} {rest : List Oper} {Q : Exit → Act → World → Prop} (T : RowTy P k e) (hgd : Region.wanted o (yielded ops a.tmps) = true) {t : TypeId} {arr : Array Value} (x y : Operand) (ho : o.op = .store k x y) (hx : a.eval x = .pointer (some ⟨w.heap.size, 0, none⟩)) (hy : a.eval y = Rw.val r) (hs : arr.size = 24) (hr : Rw.ok r)
    (h : wpList P ops Q rest (a.put o.dst undef) (w.alloc (.cells (Rw.cells r).toArray t))) : wpList P ops Q (o :: rest) a (w.alloc (.cells arr t)) := by
  refine wpList_store_R T hgd x y ho hx hy (heap_alloc_new w _) hs hr ?_
  rw [putObj_alloc]; exact h
end
@[simp] theorem Rw.val_cells (x : Rw) : (Rw.val x).cells = (Rw.cells x).toArray := rfl
end Go.Proofs.Ytcpphabehpbmlaa
/- relation.Relation: what it is in memory; New, Arity, Len, Gone, At, Has. -/
namespace Go.Proofs.Ytcpphabehpbmlaa
open Go.RowKit Go.WideMaps
set_option linter.unusedSimpArgs false
set_option linter.unusedVariables false

def zeroRow : Rw := [0, 0, 0, 0, 0, 0, 0, 0, 0, 0, 0, 0, 0, 0, 0, 0, 0, 0, 0, 0, 0, 0, 0, 0]
theorem zeroRow_ok : Rw.ok zeroRow := ⟨rfl, fun a ha => by
  have : a = 0 := by simpa [zeroRow] using ha
  subst this; decide⟩
/-- Where a row stands. -/
def idx (xs : List Rw) (x : Rw) : Option Int := if x ∈ xs then some ((xs.idxOf x : Nat) : Int) else none
theorem idx_isSome (xs : List Rw) (x : Rw) : (idx xs x).isSome = decide (x ∈ xs) := by
  unfold idx
  by_cases h : x ∈ xs <;> simp [h]
theorem idx_push {xs : List Rw} {x : Rw} (h : x ∉ xs) : (fun y => if y = x then some ((xs.length : Nat) : Int) else idx xs y) = idx (xs ++ [x]) := by
  funext y
  unfold idx
  by_cases hy : y = x
  · subst hy
    simp [h, List.idxOf_append]
  · rw [if_neg hy]
    by_cases hm : y ∈ xs
    · simp [hm, List.idxOf_append]
    · simp [hm, hy]

def pfoot (pb mb : Nat) (lv : Value) (k : Nat) : Prop := k = pb ∨ k = mb ∨ lv.ownBlock = some k
def foot (b pb mb : Nat) (lv : Value) (k : Nat) : Prop := k = b ∨ pfoot pb mb lv k
section
variable {B : Nat} {w w' : World} {b pb mb : Nat} {lv : Value} {ar gone : Nat} {xs : List Rw} {S : Nat → Prop}
theorem OwnL.only {α : Type} {sz : Nat} {e : TypeId} {R : World → List Value → α → Prop} {v : Value} {ys : List α} (h : OwnL sz B e R w v ys) (hR : ∀ cs x, R w cs x → R w' cs x) (hg : Only S w w') (hne : ∀ k, v.ownBlock = some k → ¬ S k) : OwnL sz B e R w' v ys := by
  obtain ⟨css, h1, h2, h3, h4⟩ := h
  refine ⟨css, h1, fun i cs x hi hx => ⟨(h2 i cs x hi hx).1, hR _ _ (h2 i cs x hi hx).2⟩, h3, ?_⟩
  rcases h4 with h4 | ⟨g, cap, cur, a1, a2, a3, a4⟩
  · exact .inl h4
  · exact .inr ⟨g, cap, cur, a1, a2, hg.keeps a3 (hne g (by rw [a1]; rfl)), a4⟩
theorem cell_at {g : Nat} {cs : Array Value} {t : TypeId} {fr : Nat × Nat} (h : w.heap[g]? = some (.cells cs t fr)) (j : Nat) (v : Value) (hj : cs[j]? = some v) : w.cell? ⟨g, j, none⟩ = some v := by
  simp [World.cell?, h, hj]
theorem free_at {g : Nat} {cs : Array Value} {t : TypeId} (h : w.heap[g]? = some (.cells cs t (0, 0))) (j : Nat) : w.frozen? ⟨g, j, none⟩ = false := by
  simp [World.frozen?, h]
end

/-! ### Is it there? Its arity, its rows, its number of those that are gone -/
end Go.Proofs.Ytcpphabehpbmlaa
/- relation.New, At, Has. -/
namespace Go.Proofs.Ytcpphabehpbmlaa
open Go.RowKit Go.WideMaps
set_option linter.unusedSimpArgs false
set_option linter.unusedVariables false

theorem zeros_eq : #[Value.int .i32 0, Value.int .i32 0, Value.int .i32 0, Value.int .i32 0, Value.int .i32 0, Value.int .i32 0, Value.int .i32 0, Value.int .i32 0, Value.int .i32 0, Value.int .i32 0, Value.int .i32 0, Value.int .i32 0, Value.int .i32 0, Value.int .i32 0, Value.int .i32 0, Value.int .i32 0, Value.int .i32 0, Value.int .i32 0, Value.int .i32 0, Value.int .i32 0, Value.int .i32 0, Value.int .i32 0, Value.int .i32 0, Value.int .i32 0] = (Rw.cells zeroRow).toArray := rfl
theorem results_row {P : Program} {k e : TypeId} {fn : Func} {p q : Tmp} {tmps : Array Value} {w : World} {g : Nat} {x : Rw} {v : Value} (h : fn.results = #[.cell p k, .tmp q]) (T : RowTy P k e)
    (hp : tmps.getD p undef = .pointer (some ⟨g, 0, none⟩)) (hr : RowAt w g 0 x) (hv : tmps.getD q undef = v) : (results fn tmps).run P w = .ok (.tuple #[Rw.val x, v]) w := by
  have hp' : tmps[p]?.getD undef = .pointer (some ⟨g, 0, none⟩) := by simpa using hp
  have hv' : tmps[q]?.getD undef = v := by simpa using hv
  simp [results, h, hp', hv', asAddr, run_loadVar_R T hr]
theorem zeroI (w : World) : (zeroValue 3).run Try.prog w = .ok (.int .i64 0) w := by kernel_rfl
theorem exec_lookup_R {P : Program} {k e t ev : TypeId} {w : World} {o : Oper} {a : Act} {b : Nat} {f : Rw → Option Int} {x : Rw} (T : RowTy P k e) (ht : P.underlying t = some (.map k ev)) (hz : ∀ w, (zeroValue ev).run P w = .ok (.int .i64 0) w) (m y : Operand)
    (ho : o.op = .lookup t m y true) (hm : a.eval m = .map (some b)) (hy : a.eval y = Rw.val x) (h : MapR w b f) (hx : Rw.ok x) :
    (execOp a.eval o).run P w = .ok (.value (.tuple #[.int .i64 ((f x).getD 0), .bool (f x).isSome])) w := by
  unfold execOp
  simp only [ho, hm, hy, Sem.run_bind, h.lookup T.A T.he T.hsz ht hz hx, Sem.run_pure, Result.andThen_ok]
theorem idx_nil : (fun _ => none) = idx [] := by funext x; simp [idx]
end Go.Proofs.Ytcpphabehpbmlaa
/- slices.Min; is it a row of the arity? -/
namespace Go.Proofs.Ytcpphabehpbmlaa
open Go.RowKit Go.WideMaps
set_option linter.unusedSimpArgs false
set_option linter.unusedVariables false

/-- Which rows may be, at an arity. -/
def rightP (ar : Nat) (x : Rw) : Bool := (x.all fun a => decide (0 ≤ a)) && (x.drop ar).all fun a => decide (a = 0)
def minI (a b : Int) : Int := if b < a then b else a
theorem wf_i32 {a : Int} (h : (Lit.int .i32 a).wf = true) : -2147483648 ≤ a ∧ a ≤ 2147483647 := by simpa [Lit.wf, IntKind.min, IntKind.max, IntKind.signed, IntKind.bits] using h

def clr (n : Nat) (x : Rw) : Rw := List.replicate n 0 ++ x.drop n
theorem clr_ok {n : Nat} {x : Rw} (hx : Rw.ok x) (hn : n ≤ 24) : Rw.ok (clr n x) := ⟨by simp [clr, hx.1]; omega, fun a ha => by
  rcases List.mem_append.1 ha with ha | ha
  · rw [List.eq_of_mem_replicate ha]; decide
  · exact hx.2 a (List.mem_of_mem_drop ha)⟩
theorem clr_zero {n : Nat} {x : Rw} (hx : Rw.ok x) (hn : n ≤ 24) : clr n x = zeroRow ↔ ((x.drop n).all fun a => decide (a = 0)) = true := by
  have hz : zeroRow = List.replicate n 0 ++ List.replicate (24 - n) (0 : Int) := by
    rw [List.replicate_append_replicate, show n + (24 - n) = 24 by omega]; rfl
  rw [hz]
  unfold clr
  rw [List.append_cancel_left_eq, List.eq_replicate_iff, List.all_eq_true]
  simp [hx.1]
theorem putObj_same {w : World} {g : Nat} {o : Obj} (h : w.heap[g]? = some o) : w.putObj g o = w := by
  unfold World.putObj
  have : w.heap.setIfInBounds g o = w.heap := by
    have hl := (Array.getElem?_eq_some_iff.1 h).1
    refine Array.ext_getElem? fun i => ?_
    by_cases hi : i = g
    · subst hi; rw [h]; simp [hl]
    · rw [Array.getElem?_setIfInBounds_ne (Ne.symm hi)]
  rw [this]
theorem zeroCells_i32 (n : Nat) : (Builtin.zeroCells (#[Value.int .i32 0]) n).toList = List.replicate n (.int .i32 0) := by
  unfold Builtin.zeroCells
  simp only [List.size_toArray, List.length_cons, List.length_nil, Nat.zero_add, Nat.mul_one, Nat.mod_one, Array.toList_map, Array.toList_range]
  rw [List.eq_replicate_iff]
  simp
theorem exec_clear_R {P : Program} {t k e : TypeId} {w : World} {o : Oper} {a : Act} {g n cap : Nat} {x : Rw} (T : RowTy P k e) (ht : P.underlying t = some (.slice e)) (hz : ∀ w, (zeroValue e).run P w = .ok (.int .i32 0) w) (y : Operand)
    (ho : o.op = .call { callee := .builtin .clear, args := #[y], argTypes := #[t] }) (hy : a.eval y = .slice (some ⟨g, 0, none⟩) n cap) (hb : w.heap[g]? = some (.cells (Rw.cells x).toArray k (0, 0))) (hx : Rw.ok x) (hn : n ≤ 24) :
    (execOp a.eval o).run P w = .ok (.value (.tuple #[])) (w.putObj g (.cells (Rw.cells (clr n x)).toArray k (0, 0))) := by
  have hl := Rw.cells_len hx
  have hrun : (Builtin.clear_ #[t] o.type #[.slice (some ⟨g, 0, none⟩) n cap]).run P w = .ok (.tuple #[]) (w.putObj g (.cells (Rw.cells (clr n x)).toArray k (0, 0))) := by
    cases n with
    | zero =>
      have e1 : clr 0 x = x := by simp [clr]
      rw [e1, putObj_same hb]
      simp [Builtin.clear_, run_underlying ht]
    | succ n =>
      have h1 := run_storeCells_cells (P := P) g 0 (List.replicate (n + 1) (.int .i32 0)) 0 w (fun j hj => by
        rw [List.length_replicate] at hj
        simp [World.cell?, hb]; omega) (fun j hj => by simp [World.frozen?, hb]) (fun v hv => by rw [List.eq_of_mem_replicate hv]; rfl)
      obtain ⟨arr', h2, h3, h4⟩ := setCells_put (List.replicate (n + 1) (.int .i32 0)) 0 w _ hb
      have e1 : arr' = (Rw.cells (clr (n + 1) x)).toArray := by
        refine Array.ext_getElem? fun j => ?_
        rw [h4]
        simp only [Rw.cells, clr, List.map_append, List.map_replicate, List.getElem?_toArray, List.length_replicate, Nat.zero_add, Nat.sub_zero, List.size_toArray, List.length_map, hx.1]
        by_cases hj : j < n + 1
        · rw [if_pos (by omega), List.getElem?_append_left (by simpa using hj)]
        · rw [if_neg (by omega), List.getElem?_append_right (by simpa using hj)]
          simp only [List.length_replicate, List.map_drop, List.getElem?_drop]
          rw [show n + 1 + (j - (n + 1)) = j by omega]
      simp only [Nat.add_zero] at h1
      rw [h2, e1] at h1
      simp [Builtin.clear_, run_underlying ht, hz, Value.cells, zeroCells_i32, h1]
  unfold execOp
  simp only [ho, resolve, invoke, builtin, Sem.run_bind, Sem.run_pure, Result.andThen_ok, List.map_toArray, List.map_cons, List.map_nil, hy, hrun]
theorem right_eq {n : Nat} {x : Rw} {m : Int} (hx : Rw.ok x) (hn : n ≤ 24) (hm : m < 0 ↔ ∃ a ∈ x, a < 0) : rightP n x = (decide (¬ m < 0) && decide (clr n x = zeroRow)) := by
  unfold rightP
  have h1 : (x.all fun a => decide (0 ≤ a)) = decide (¬ m < 0) := by
    rw [Bool.eq_iff_iff, List.all_eq_true, decide_eq_true_eq, hm]
    constructor
    · rintro h ⟨a, ha, h2⟩
      have := of_decide_eq_true (h a ha); omega
    · intro h a ha
      exact decide_eq_true (by
        by_cases h' : a < 0
        · exact absurd ⟨a, ha, h'⟩ h
        · omega)
  have h2 : ((x.drop n).all fun a => decide (a = 0)) = decide (clr n x = zeroRow) := by
    rw [Bool.eq_iff_iff, decide_eq_true_eq]; exact (clr_zero hx hn).symm
  rw [h1, h2]
theorem exec_eql_R {P : Program} {k e : TypeId} {w : World} {o : Oper} {a : Act} {x y : Rw} (T : RowTy P k e) (hg : P.eqGuardType P.depth k = false) (p q : Operand) (kt : TypeId)
    (ho : o.op = .binOp .eql k p q kt) (hp : a.eval p = Rw.val x) (hq : a.eval q = Rw.val y) (hx : Rw.ok x) (hy : Rw.ok y) : (execOp a.eval o).run P w = .ok (.value (.bool (decide (x = y)))) w := by
  have h1 := run_eql_row T.A T.he T.hsz hx hy w
  unfold execOp
  unfold Rw.val at h1 hp hq
  simp only [ho, hp, hq, Sem.run_bind, run_eqGuard_agg w .eql k p q _ _ hg, Result.andThen_ok, h1, Sem.run_pure]
theorem exec_neq_R {P : Program} {k e : TypeId} {w : World} {o : Oper} {a : Act} {x y : Rw} (T : RowTy P k e) (hg : P.eqGuardType P.depth k = false) (p q : Operand) (kt : TypeId)
    (ho : o.op = .binOp .neq k p q kt) (hp : a.eval p = Rw.val x) (hq : a.eval q = Rw.val y) (hx : Rw.ok x) (hy : Rw.ok y) : (execOp a.eval o).run P w = .ok (.value (.bool (!decide (x = y)))) w := by
  have h1 := run_neq_row T.A T.he T.hsz hx hy w
  unfold execOp
  unfold Rw.val at h1 hp hq
  simp only [ho, hp, hq, Sem.run_bind, run_eqGuard_agg w .neq k p q _ _ hg, Result.andThen_ok, h1, Sem.run_pure]
end Go.Proofs.Ytcpphabehpbmlaa
/- A region that draws its order, whose first operation, a plain copy, may come at any time. No program. -/
namespace Go.Proofs.Ytcpphabehpbmlaa
open Go.RowKit
set_option linter.unusedSimpArgs false
set_option linter.unusedVariables false

/-- The tail waits for all of the head but number 0. -/
def sink1B (ops : Array Oper) (n : Nat) : Bool :=
  (List.range n).all fun i => decide (i = 0) || (List.range (n + 1)).any fun j => decide (i < j) && Region.waitsFor .any ops j i
def sinkB0 (ops : Array Oper) (n : Nat) : Bool := decide (n = ops.size) || (sink1B ops n && Region.chainB .any ops n)
def tailB0 (ops : Array Oper) (n : Nat) : Bool := sinkB0 ops n && Region.seqB .any ops (ops.size - n) n (headDone n ops.size)
def takeB (ops : Array Oper) : Bool := match ops[0]? with
  | none => false
  | some o => (match o.guard with | none => true | some _ => false) && (match o.op with | .move (.tmp _) => true | _ => false) && Region.free .any ops (Array.replicate ops.size false) 0 && (Region.ready .any ops (Array.replicate ops.size false)).contains 0

theorem tail_waits0 {ops : Array Oper} {n : Nat} {listed : Array Bool} (hs : sink1B ops n = true) (hc : Region.chainB .any ops n = true) (hn : n < ops.size) (inv : HeadInv .any ops n listed) :
    ∀ (d i : Nat), n - i = d → i < n → i ≠ 0 → listed.getD i true = false → ∀ t, n ≤ t → t ∉ Region.ready .any ops listed := by
  intro d
  induction d using Nat.strongRecOn with
  | _ d ih =>
    intro i hd hi hi0 hun t ht hr
    obtain ⟨_, ot, hot, hall⟩ := mem_ready.1 hr
    have htlt : t < ops.size := (Array.getElem?_eq_some_iff.1 hot).1
    by_cases htn : t = n
    · subst htn
      have h1 := List.all_eq_true.1 hs i (List.mem_range.2 hi)
      simp only [hi0, decide_false, Bool.false_or] at h1
      obtain ⟨j, hj, hj2⟩ := List.any_eq_true.1 h1
      simp only [Bool.and_eq_true, decide_eq_true_eq] at hj2
      obtain ⟨oj, hoj, e, he, hb, hon⟩ := Region.waitsFor_spec hj2.2
      have hjle : j ≤ t := by have := List.mem_range.1 hj; omega
      by_cases hjt : j = t
      · subst hjt
        have : oj = ot := Option.some.inj (hoj.symm.trans hot)
        subst this
        have h2 := hall e he hb
        rw [hon, getD_both hun] at h2
        cases h2
      · cases hl : listed.getD j false with
        | true =>
          have h2 := inv.closed j oj hoj hl e he hb
          rw [hon, getD_both hun] at h2
          cases h2
        | false =>
          have hjs : j < listed.size := by rw [inv.size]; omega
          exact ih (t - j) (by omega) j rfl (by omega) (by omega) (getD_in hjs hl) t (Nat.le_refl _) hr
    · have h1 := List.all_eq_true.1 hc t (List.mem_range.2 htlt)
      simp only [Bool.or_eq_true, decide_eq_true_eq] at h1
      rcases h1 with h1 | h1
      · omega
      · obtain ⟨o', ho', e, he, hb, hon⟩ := Region.waitsFor_spec h1
        have : o' = ot := Option.some.inj (ho'.symm.trans hot)
        subst this
        have h2 := hall e he hb
        rw [hon, getD_both (inv.tail (t - 1) (by omega) (by omega))] at h2
        cases h2

theorem wp_region_graph0 {P : Program} {id : Nat} {Q : Exit → Act → World → Prop} {a0 : Act} {w : World} {l : List Oper} (n : Nat) (hm : P.follows .mixedOrders = true)
    (hB : (graphB l.toArray n && tailB0 l.toArray n) = true) (ht0 : takeB l.toArray = true) (hn0 : 0 < n) (hQ : ∀ c v w, ∀ a : Act, ∀ o, l[0]? = some o → Q (.panic c) (a.put o.dst v) w → Q (.panic c) a w) (hsz : ((List.range n).all fun k => match dstAt l.toArray k with | some d => decide (d < a0.tmps.size) | none => true) = true)
    (h : Obl P l.toArray w.drew a0 (wpList P l.toArray Q (l.drop n)) (l.take n) []) : (Code.region id l.toArray true).wp P Q a0 w := by
  simp only [Bool.and_eq_true, tailB0] at hB
  obtain ⟨hG, hS, hseq⟩ := hB
  obtain ⟨hsel, hns, hg⟩ := graphB_spec hG
  have hnl : n ≤ l.length := by simpa using hns
  have hbd : ∀ k d, dstAt l.toArray k = some d → k < n → d < a0.tmps.size := fun k d hd hk => by
    have := List.all_eq_true.1 hsz k (List.mem_range.2 hk)
    simpa [hd] using this
  obtain ⟨full, hfl, _, hob, hfin⟩ := Obl_split _ _ h
  simp only [List.length_nil, Nat.zero_add] at hfl hob
  have htl : (l.take n).length = n := by simp; omega
  rw [htl] at hfl
  -- the specifications
  obtain ⟨sp, hsp⟩ : ∃ sp : Nat → Sp, ∀ k, sp k = ((full[k]?).map (·.2)).getD (.det undef) := ⟨_, fun _ => rfl⟩
  have hfull : ∀ k, k < n → ∃ o, l[k]? = some o ∧ full[k]? = some (dstAt l.toArray k, sp k) ∧ (sp k).mono ∧
      ∀ w', Fut w.drew w' → lexAct o w' (fun a => givesG P l.toArray o a (sp k) w') 0 (full.take k) a0 := fun k hk => by
    have hlk : l[k]? = some (l[k]'(by omega)) := List.getElem?_eq_getElem (by omega)
    obtain ⟨s, hs, hmono, hlex⟩ := hob k _ (by rw [List.getElem?_take, if_pos hk]; exact hlk)
    have hspk : sp k = s := by rw [hsp, hs]; rfl
    refine ⟨_, hlk, ?_, by rw [hspk]; exact hmono, by rw [hspk]; exact hlex⟩
    rw [hs, hspk]
    simp [dstAt, hlk]
  refine wp_region_any hm ?_
  have main : ∀ (f : Nat) (listed : Array Bool) (a : Act) (w' : World) (vs : Nat → Value), GInv l.toArray n sp a0 w.drew vs listed a w' → listed.getD 0 false = true → unl listed n = f →
      wpAny P .any l.toArray Q (f + (l.length - n)) listed a w' := by
    intro f
    induction f with
    | zero =>
      intro listed a w' vs inv hl0 hf
      rw [Nat.zero_add]
      have hlisted : listed = headDone n l.length := by
        refine Array.ext_getElem? fun t => ?_
        by_cases ht : t < l.length
        · have hts : t < listed.size := by rw [inv.lsize]; simpa using ht
          have h2 : (headDone n l.length)[t]? = some (decide (t < n)) := by simp [headDone, ht]
          rw [h2, Array.getElem?_eq_getElem hts]
          by_cases htn : t < n
          · have := unl_zero n hf t htn
            simp [hts] at this
            simp [htn, this]
          · have := inv.tail t (by omega) (by simpa using ht)
            simp [hts] at this
            simp [htn, this]
        · rw [Array.getElem?_eq_none (by rw [inv.lsize]; simp; omega), Array.getElem?_eq_none (by simp [headDone]; omega)]
      have hlast := lexFin_inst (K := fun a => wpList P l.toArray Q (l.drop n) a w') vs full 0 a0 (hfin w' inv.fut) fun j d S hj => by
        rw [Nat.zero_add]
        have hjn : j < n := by rw [← hfl]; exact (List.getElem?_eq_some_iff.1 hj).1
        obtain ⟨_, _, h1, _, _⟩ := hfull j hjn
        rw [hj] at h1
        simp only [Option.some.injEq, Prod.mk.injEq] at h1
        have := inv.held j hjn (unl_zero n hf j hjn)
        rw [← h1.2] at this
        exact this
      have hact : a = putAll vs 0 full a0 := by
        refine act_ext (fun t => ?_) ?_
        · by_cases hex : ∃ k, k < n ∧ dstAt l.toArray k = some t
          · obtain ⟨k, hk, hkd⟩ := hex
            obtain ⟨_, _, h1, _, _⟩ := hfull k hk
            rw [hkd] at h1
            rw [inv.slot k t hk (unl_zero n hf k hk) hkd, putAll_at vs t full 0 a0 k (sp k) (hbd k t hkd hk) h1, Nat.zero_add]
            · have h2 := inv.held k hk (unl_zero n hf k hk)
              cases hs : sp k with
              | det c => rw [hs] at h2; simp only [Sp.holds] at h2; rw [h2]; rfl
              | rel S => rfl
            · intro j d s' hj hd
              have hjn : j < n := by rw [← hfl]; exact (List.getElem?_eq_some_iff.1 hj).1
              obtain ⟨_, _, h3, _, _⟩ := hfull j hjn
              rw [hj] at h3
              simp only [Option.some.injEq, Prod.mk.injEq] at h3
              have hjd : dstAt l.toArray j = some t := h3.1.symm.trans hd
              rcases Nat.lt_trichotomy j k with h' | h' | h'
              · obtain ⟨ok, hok, _, hd2, _⟩ := hg k hk
                exact absurd hjd (hd2 t (by simpa [dstAt, hok] using hkd) j h')
              · exact h'
              · obtain ⟨oj, hoj, _, hd2, _⟩ := hg j hjn
                exact absurd hkd (hd2 t (by simpa [dstAt, hoj] using hjd) k h')
          · rw [inv.free t fun k hk _ hd => hex ⟨k, hk, hd⟩, putAll_other]
            intro d s hmem hd
            obtain ⟨j, hj⟩ := List.getElem?_of_mem hmem
            have hjn : j < n := by rw [← hfl]; exact (List.getElem?_eq_some_iff.1 hj).1
            obtain ⟨_, _, h3, _, _⟩ := hfull j hjn
            rw [hj] at h3
            simp only [Option.some.injEq, Prod.mk.injEq] at h3
            exact hex ⟨j, hjn, h3.1.symm.trans hd⟩
        · rw [inv.defers]
          have : ∀ (acc : List (Option Tmp × Sp)) (k : Nat) (b : Act), (putAll vs k acc b).defers = b.defers := by
            intro acc
            induction acc with
            | nil => intro k b; rfl
            | cons x r ih =>
              intro k b
              obtain ⟨d, s⟩ := x
              cases s <;> simp only [putAll] <;> rw [ih, put_defers']
          rw [this]
      rw [← hact] at hlast
      have := wpAny_of_seq (md := .any) (P := P) (Q' := Q) (l.drop n) n listed a w' (fun j => by simp [List.getElem?_drop])
        (by rw [hlisted, List.length_drop]; simpa using hseq) hlast
      rwa [List.length_drop] at this
    | succ f ih =>
      intro listed a w' vs inv hl0 hf
      obtain ⟨i0, hi0, hi1, hi2⟩ := unl_some n (by rw [hf]; omega)
      have hils : ∀ i, i < n → i < listed.size := fun i hi => by rw [inv.lsize]; simp; omega
      have hready : i0 ∈ Region.ready .any l.toArray listed := by
        obtain ⟨o, ho, hedge, _⟩ := hg i0 hi0
        exact mem_ready.2 ⟨getD_in (hils i0 hi0) hi1, o, ho, fun e he hb => hi2 _ (hedge e he hb)⟩
      rw [show f + 1 + (l.length - n) = (f + (l.length - n)) + 1 by omega]
      refine ⟨fun h0 => (by rw [h0] at hready; cases hready), fun i hi => ?_⟩
      have hin : i < n := by
        rcases Nat.lt_or_ge i n with h' | h'
        · exact h'
        · exfalso
          have hisz : i < l.toArray.size := by
            obtain ⟨_, o, ho, _⟩ := mem_ready.1 hi
            exact (Array.getElem?_eq_some_iff.1 ho).1
          simp only [sinkB0, Bool.or_eq_true, decide_eq_true_eq, Bool.and_eq_true] at hS
          rcases hS with hS | ⟨hs, hc⟩
          · omega
          · exact tail_waits0 hs hc (by omega) ⟨inv.lsize, inv.closed, inv.tail⟩ _ i0 rfl hi0 (fun e => by rw [e, hl0] at hi1; cases hi1) (getD_in (hils i0 hi0) hi1) i h' hi
      refine inv.step (full := full) (Q := Q) hG hbd (fun k hk => (by obtain ⟨_, _, h1, _, _⟩ := hfull k hk; exact h1)) hfl (fun k hk => (by obtain ⟨_, _, _, h1, _⟩ := hfull k hk; exact h1))
        (fun o ho => (by
          obtain ⟨o', ho', _, _, h1⟩ := hfull i hin
          have : o = o' := Option.some.inj ((by simpa using ho.symm : some o = l[i]?).trans ho')
          subst this
          exact h1)) hi hin fun v a' w'' inv' => ih _ a' w'' _ inv' (by
          by_cases hi0' : i = 0
          · subst hi0'; have := (mem_ready.1 hi).1; rw [getD_both this] at hl0; cases hl0
          · rw [getD_set_ne false hi0']; exact hl0) ?_
      have hun := getD_both (mem_ready.1 hi).1
      have := unl_set hun (hils i hin) n hin
      omega
  obtain ⟨o0, hl0, h1, _, hlex0⟩ := hfull 0 hn0
  have hi0 : l.toArray[0]? = some o0 := by simpa using hl0
  unfold takeB at ht0
  rw [hi0] at ht0
  simp only [Bool.and_eq_true] at ht0
  obtain ⟨⟨⟨hgd, hmv⟩, hfree⟩, hrdy⟩ := ht0
  have hwant : Region.wanted o0 (yielded l.toArray a0.tmps) = true := by
    unfold Region.wanted
    cases hg' : o0.guard with
    | none => rfl
    | some x => rw [hg'] at hgd; cases hgd
  obtain ⟨y, hop⟩ : ∃ y, o0.op = .move (.tmp y) := by
    split at hmv
    · rename_i y hop; exact ⟨y, hop⟩
    · cases hmv
  have hexec : ∀ w', (execOp a0.eval o0).run P w' = .ok (.value (a0.eval (.tmp y))) w' := fun w' => by
    unfold execOp
    simp only [hop, Sem.run_pure]
  have hS0 : ∀ w', Fut w.drew w' → (sp 0).holds (a0.eval (.tmp y)) w' := fun w' hw' => by
    have h2 := hlex0 w' hw'
    simp only [List.take_zero, lexAct, givesG] at h2
    rw [if_pos hwant] at h2
    unfold gives at h2
    rw [hexec w'] at h2
    exact h2.2
  have hsz0 : l.toArray.size = (l.toArray.size - 1) + 1 := by
    have := (Array.getElem?_eq_some_iff.1 hi0).1
    omega
  have hd0 : dstAt l.toArray 0 = o0.dst := by unfold dstAt; rw [hi0]; rfl
  rw [hsz0]
  refine wpAny_take hi0 hsel (by rw [← hsz0]; exact hfree) (by rw [← hsz0]; exact hrdy) (fun c a w => hQ c _ w a o0 hl0) (.inl ⟨hwant, hexec⟩) ?_
  have hLs : 0 < (Array.replicate (l.toArray.size - 1 + 1) false).size := by simp
  have hcl : ∀ j, ((Array.replicate (l.toArray.size - 1 + 1) false).setIfInBounds 0 true).getD j false = true → j = 0 := fun j hj => by
    by_cases hj0 : j = 0
    · exact hj0
    · rw [getD_set_ne false (Ne.symm hj0), getD_replicate_false] at hj; cases hj
  have inv0 : GInv l.toArray n sp a0 w.drew (fun _ => a0.eval (.tmp y)) ((Array.replicate (l.toArray.size - 1 + 1) false).setIfInBounds 0 true) (a0.put o0.dst (a0.eval (.tmp y))) w.drew := by
    refine ⟨by rw [put_size], by rw [put_defers'], Fut.refl _, fun t ht => ?_, fun k hk hl => ?_, fun k d hk hl hd => ?_, by rw [Array.size_setIfInBounds, Array.size_replicate]; exact hsz0.symm, fun j oj hj hl e he hb => ?_, fun t ht ht' => ?_⟩
    · rw [put_other _ _ _ _ (by rw [← hd0]; exact ht 0 hn0 (by simp))]
    · rw [hcl k hl]; exact hS0 _ (Fut.refl _)
    · have hk0 := hcl k hl
      subst hk0
      rw [hd0] at hd
      rw [hd]
      exact put_same _ _ _ (hbd 0 d (hd0.trans hd) hn0)
    · have hj0 := hcl j hl
      subst hj0
      obtain ⟨o', ho', hedge, _⟩ := hg 0 hn0
      have : oj = o' := Option.some.inj (hj.symm.trans ho')
      subst this
      exact absurd (hedge e he hb) (by omega)
    · rw [getD_set_ne true (by omega)]
      exact getD_in (by rw [Array.size_replicate, ← hsz0]; exact ht') (getD_replicate_false _ _)
  have hun : unl ((Array.replicate (l.toArray.size - 1 + 1) false).setIfInBounds 0 true) n + 1 = n := by
    rw [unl_set (getD_replicate_false _ _) (by simp) n hn0, unl_none]
  have := main (n - 1) _ _ _ _ inv0 (by simp) (by omega)
  rwa [show n - 1 + (l.length - n) = l.toArray.size - 1 by simp; omega] at this

theorem wp_graph0 {P : Program} {id : Nat} {Q : Exit → Act → World → Prop} {a0 : Act} {w : World} {l : List Oper} (n : Nat) (shape : List Sh) (hm : P.follows .mixedOrders = true)
    (hB : (graphB l.toArray n && tailB0 l.toArray n) = true) (ht0 : takeB l.toArray = true) (hn0 : 0 < n) (hQ : ∀ c v w, ∀ a : Act, ∀ o, l[0]? = some o → Q (.panic c) (a.put o.dst v) w → Q (.panic c) a w) (hsz : ((List.range n).all fun k => match dstAt l.toArray k with | some d => decide (d < a0.tmps.size) | none => true) = true)
    (h : Exs (fun sps => Run P l.toArray w.drew (wpList P l.toArray Q (l.drop n)) 0 (l.take n) sps a0 []) shape) : (Code.region id l.toArray true).wp P Q a0 w := by
  obtain ⟨sps, hs⟩ := Exs_some shape h
  exact wp_region_graph0 n hm hB ht0 hn0 hQ hsz (Obl_of_run _ sps [] fun _ => hs)
end Go.Proofs.Ytcpphabehpbmlaa
/- append, with where the new list lies: several lists of the call's own side by side. Generic; no program. -/
namespace Go.Proofs.Ytcpphabehpbmlaa
open Go.RowKit
set_option linter.unusedSimpArgs false
set_option linter.unusedVariables false

section
variable {α : Type} {sz B M : Nat} {e : TypeId} {R : World → List Value → α → Prop} {w w' : World} {v u : Value} {xs ys : List α}
/-- APPEND: the list grows by what the second one holds. -/
theorem run_append_list_at {P : Program} (t ty : TypeId) (i : TypeInfo) (z : Value) (bytes : Nat) (ht : P.underlying t = some (.slice e)) (hi : P.info? e = some i) (hz : i.zero = some z) (hsize : i.size = sz) (hby : i.bytes = bytes) (hzs : z.cells.size = sz) (hsz : 0 < sz)
    (hR1 : ∀ w cs x, R w cs x → ∀ u ∈ cs, u.oneCell' = true) (hRk : ∀ w' cs (x : α), R w cs x → w.grownBy w' v.ownBlock → R w' cs x)
    (h : OwnL sz B e R w v xs) (hu : SlRep sz M R w u ys) (h63 : xs.length + ys.length ≤ maxLen) (hbytes : (xs.length + ys.length) * bytes ≤ 140737488355328) (hbase : B ≤ w.heap.size) :
    ∃ v' w', (Builtin.append_ #[t, t] ty #[v, u]).run P w = .ok v' w' ∧ OwnL sz B e R w' v' (xs ++ ys) ∧ w.grownBy w' v.ownBlock ∧ (v'.ownBlock = v.ownBlock ∨ v'.ownBlock = some w.heap.size) := by
  have h0 := h
  obtain ⟨css, h1, h2, h3⟩ := h
  obtain ⟨A, cap, rfl, hl, hm, hx⟩ := hu
  have hgrow : ∀ w', w.grownBy w' v.ownBlock → ∀ (i : Nat) (cs : List Value) (x : α), css[i]? = some cs → xs[i]? = some x → cs.length = sz ∧ R w' cs x := fun w' hg i cs x hi hx => ⟨(h2 i cs x hi hx).1, hRk _ _ _ (h2 i cs x hi hx).2 hg⟩
  cases A with
  | none =>
    have hy : ys = [] := by
      cases ys with
      | nil => rfl
      | cons y r => obtain ⟨_, _, _, hA, _⟩ := hx 0 y rfl; cases hA
    subst hy
    obtain ⟨A', cap', hv, hl', _⟩ := h0.rep.form
    subst hv
    exact ⟨_, w, run_append_none t ty i ht hi A' _ cap' cap hl' w, by rw [List.append_nil]; exact h0, World.grownBy.refl w _, .inl rfl⟩
  | some a =>
    obtain ⟨news, hnl, hnews⟩ := exists_list (p := fun k (cs : List Value) => ∃ y, ys[k]? = some y ∧ cs.length = sz ∧ R w cs y ∧ ∀ j c, cs[j]? = some c → w.cell? (a.add (k * sz + j)) = some c) ys.length fun k hk => by
      obtain ⟨b, off, cs, hA, b1, b2, b3⟩ := hx k _ (List.getElem?_eq_getElem hk)
      injection hA with hA
      subst hA
      refine ⟨cs, _, List.getElem?_eq_getElem hk, b1, b3, fun j c hj => ?_⟩
      rw [← b2 j c hj]
      congr 1
      unfold Addr.add
      by_cases h' : k * sz + j = 0 <;> first | (simp [h']; done) | (simp [h']; omega)
    have hs : ∀ (i : Nat) (cs : List Value), news[i]? = some cs → cs.length = sz := fun i cs hi => by obtain ⟨y, _, b1, _⟩ := hnews i cs hi; exact b1
    have hcells : ∀ j u, news.flatten[j]? = some u → w.cell? (a.add j) = some u := fun j u hj => by
      have hjl : j < news.length * sz := by
        have := (List.getElem?_eq_some_iff.1 hj).1
        rwa [flatten_len hs] at this
      have hk : j / sz < news.length := Nat.div_lt_of_lt_mul (by rw [Nat.mul_comm]; exact hjl)
      obtain ⟨y, _, b1, _, b2⟩ := hnews (j / sz) _ (List.getElem?_eq_getElem hk)
      have hr : j % sz < (news[j / sz]).length := by rw [b1]; exact Nat.mod_lt _ hsz
      have e1 := flatten_at hs (j / sz) (j % sz) _ _ (List.getElem?_eq_getElem hk) (List.getElem?_eq_getElem hr)
      have e2 := b2 (j % sz) _ (List.getElem?_eq_getElem hr)
      rw [show j / sz * sz + j % sz = j by rw [Nat.mul_comm]; exact Nat.div_add_mod j sz] at e1 e2
      rw [hj] at e1
      rw [e2, ← e1]
    have hone : ∀ u ∈ news.flatten, u.oneCell' = true := fun u hu => by
      obtain ⟨cs, hc, hu⟩ := List.mem_flatten.1 hu
      obtain ⟨k, hk⟩ := List.getElem?_of_mem hc
      obtain ⟨y, _, _, b3, _⟩ := hnews k cs hk
      exact hR1 _ _ _ b3 u hu
    obtain ⟨v', w', r1, r2, r3, _, r5⟩ := run_append_own_at (P := P) w B t ty e i z sz bytes ht hi hz hsize hby hzs hsz v xs.length css.flatten h3 a ys.length cap news.flatten (by rw [flatten_len hs, hnl]) hcells hone h63 hbytes hbase
    refine ⟨v', w', r1, ⟨css ++ news, by simp [h1, hnl], fun k cs x hk hx' => ?_, by rw [List.flatten_append, List.length_append]; exact r2⟩, r3, r5⟩
    rcases Nat.lt_or_ge k css.length with h' | h'
    · rw [List.getElem?_append_left h'] at hk
      rw [List.getElem?_append_left (by omega)] at hx'
      exact hgrow w' r3 k cs x hk hx'
    · rw [List.getElem?_append_right h'] at hk
      rw [List.getElem?_append_right (by omega)] at hx'
      obtain ⟨y, e1, b1, b3, _⟩ := hnews _ _ hk
      rw [h1, hx'] at e1
      obtain rfl := Option.some.inj e1
      exact ⟨b1, hRk _ _ _ b3 r3⟩
/-- Lists of the call's own that lie apart. -/
def Apart (v u : Value) : Prop := ∀ k, v.ownBlock = some k → u.ownBlock ≠ some k
theorem Apart.symm (h : Apart v u) : Apart u v := fun k h1 h2 => h k h2 h1
theorem Apart.nil : Apart v (.slice none 0 0) := fun k _ h => by cases h
theorem OwnL.apart {row : Option Nat} (h : OwnL sz B e R w v xs) (hR : ∀ cs x, R w cs x → R w' cs x) (hg : w.grownBy w' row) (hne : ∀ k, row = some k → v.ownBlock ≠ some k) : OwnL sz B e R w' v xs := by
  obtain ⟨css, h1, h2, h3⟩ := h
  refine ⟨css, h1, fun i cs x hi hx => ⟨(h2 i cs x hi hx).1, hR _ _ (h2 i cs x hi hx).2⟩, h3.kept hg ?_⟩
  cases hv : v.ownBlock with
  | none => exact .inl rfl
  | some k => exact .inr fun hr => hne k hr.symm hv
theorem Apart.grow {v' : Value} {n : Nat} (h : Apart v u) (hat : v'.ownBlock = v.ownBlock ∨ v'.ownBlock = some n) (hu : ∀ k, u.ownBlock = some k → k < n) : Apart v' u := fun k h1 h2 => by
  rcases hat with h3 | h3
  · exact h k (h3 ▸ h1) h2
  · rw [h3] at h1
    injection h1 with h1
    have := hu k h2
    omega
theorem wpList_append_at {P : Program} {ops : Array Oper} {rest : List Oper} {o : Oper} {a : Act} {Q : Exit → Act → World → Prop} (hgd : Region.wanted o (yielded ops a.tmps) = true) (s x : Operand) (t : TypeId)
    (ho : o.op = .call { callee := .builtin .append, args := #[s, x], argTypes := #[t, t] }) (ht : P.underlying t = some (.slice e)) (z : Value) (bytes : Nat)
    (hinfo : (P.info? e).map (fun i => (i.zero, i.size, i.bytes)) = some (some z, sz, bytes)) (hzs : z.cells.size = sz) (hsz : 0 < sz)
    (hR1 : ∀ w cs x, R w cs x → ∀ u ∈ cs, u.oneCell' = true) (hRk : Keeps e R)
    (hs : a.eval s = v) (hx : a.eval x = u) (hown : OwnL sz B e R w v xs) (hu : SlRep sz M R w u ys) (h63 : xs.length + ys.length ≤ maxLen) (hbytes : (xs.length + ys.length) * bytes ≤ 140737488355328) (hbase : B ≤ w.heap.size)
    (h : ∀ v' w', OwnL sz B e R w' v' (xs ++ ys) → w.grownBy w' v.ownBlock → (v'.ownBlock = v.ownBlock ∨ v'.ownBlock = some w.heap.size) → wpList P ops Q rest (a.put o.dst v') w') : wpList P ops Q (o :: rest) a w := by
  obtain ⟨i, hi, hz, hs', hb⟩ := info_parts hinfo
  obtain ⟨v', w', hr, h2, h3, h4⟩ := run_append_list_at t o.type i z bytes ht hi hz hs' hb hzs hsz hR1 (fun w' cs x hr hg => hRk w w' _ cs x hr hg hown.typed) hown hu h63 hbytes hbase
  refine wpList_step fun K hK => ?_
  rw [if_pos hgd]
  unfold Oper.wp
  have hrun : (execOp a.eval o).run P w = .ok (.value v') w' := by
    unfold execOp
    simp only [ho, resolve, invoke, builtin, Sem.run_bind, Sem.run_pure, Result.andThen_ok, List.map_toArray, List.map_cons, List.map_nil, hs, hx, hr]
  rw [hrun]
  exact hK _ _ (h v' w' h2 h3 h4)
end
end Go.Proofs.Ytcpphabehpbmlaa
