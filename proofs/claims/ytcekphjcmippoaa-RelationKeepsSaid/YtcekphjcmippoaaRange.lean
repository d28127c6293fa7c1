/- A range over a function: what an iterator promises, round by round; the statement's law. No program. -/
import Derived.Test.YtcekphjcmippoaaOwn
import Derived.RangeFuncNested
import Derived.RangeFuncLeaves
namespace Go.Proofs.Ytcekphjcmippoaa
open Go.RowKit
set_option linter.unusedSimpArgs false
set_option linter.unusedVariables false

/-- What lay from block a to block b lies there still. -/
def Mid (a b : Nat) (W W' : World) : Prop := W.heap.size ≤ W'.heap.size ∧ ∀ k, a ≤ k → k < b → W'.heap[k]? = W.heap[k]?
theorem Mid.refl (a b : Nat) (W : World) : Mid a b W W := ⟨Nat.le_refl _, fun _ _ _ => rfl⟩
theorem Mid.trans {a b : Nat} {A B C : World} (h : Mid a b A B) (k : Mid a b B C) : Mid a b A C := ⟨Nat.le_trans h.1 k.1, fun i h1 h2 => (k.2 i h1 h2).trans (h.2 i h1 h2)⟩
theorem Mid.of_fut {a b : Nat} {W W' : World} (h : Fut W W') (hb : b ≤ W.heap.size) : Mid a b W W' := ⟨h.size, fun k _ h2 => Below.block h k (by omega)⟩
theorem Mid.less {a b a' b' : Nat} {W W' : World} (h : Mid a b W W') (h1 : a ≤ a') (h2 : b' ≤ b) : Mid a' b' W W' := ⟨h.1, fun k h3 h4 => h.2 k (by omega) (by omega)⟩
theorem Mid.grown {a b : Nat} {W W' : World} {row : Option Nat} (hg : W.grownBy W' row) (hb : b ≤ W.heap.size) (hr : ∀ k, row = some k → k < a ∨ b ≤ k) : Mid a b W W' :=
  ⟨hg.size, fun k h1 h2 => hg.block k (by omega) (fun e => by have := hr k e.symm; omega)⟩

/-- An iterator: it asks for the rounds 0, 1, .., N - 1, round k with 'args k'; it makes memory of its own and turns nothing else; of its own memory it wants each round to keep what was made ahead of the first one. -/
def IterAt (P : Program) (gf : Nat) (lb : Array Value) (N : Nat) (args : Nat → Array Value) (w : World) : Prop :=
  ∀ (l : Nat) (J : Nat → Nat → World → Prop) (Jx : Nat → World → Prop),
    (∀ w1, Fut w w1 → J w1.heap.size 0 w1) → (∀ s k W W', Fut W W' → J s k W → J s k W') →
    (∀ s k W, w.heap.size ≤ s → s ≤ W.heap.size → k < N → J s k W → YieldAt Fence.wide 2 P l (args k) W fun e W' =>
      (e = .returned (.bool true) ∧ J s (k + 1) W' ∧ Mid w.heap.size s W W') ∨ (e = .returned (.bool false) ∧ Jx s W')) →
    Calls P gf (#[.func (.yield l) #[] #[]] ++ lb) w fun e W' => (∃ v, e = .returned v) ∧ ((∃ s, J s N W') ∨ ∃ s, Jx s W')

/-- How a round's body may be left. -/
def roundOut (a s : Nat) (I : World → Prop) (Ix : Code → World → Prop) (W : World) : Exit → Act → World → Prop
  | .normal, _, W' => Mid a s W W' ∧ I W'
  | .ret, _, W' => Mid a s W W' ∧ Ix .ret W'
  | .exit id, _, W' => Mid a s W W' ∧ Ix (.exit id) W'
  | .goto t, _, W' => Mid a s W W' ∧ Ix (.goto t) W'
  | .panic _, _, _ => False
  | .outgrown, _, _ => False

theorem wp_range {P : Program} {g : Operand} {ps : Array Tmp} {assign body : Code} {Q : Exit → Act → World → Prop} {a : Act} {w : World} {gf : Nat} {lb : Array Value}
    (hg : a.eval g = .func (.func gf) #[] lb) (eg : ∀ args w, (callFunc gf args).run P w = .ok (.enter gf args) w) {N : Nat} {args : Nat → Array Value}
    (hit : ∀ w1, Fut w w1 → IterAt P gf lb N args w1) (hps : ∀ k, k < N → (args k).size = ps.size)
    (I : Nat → Nat → World → Prop) (Ix : Code → Nat → World → Prop)
    (hIf : ∀ s k W W', Fut W W' → I s k W → I s k W') (hI : ∀ s k W l o, w.heap.size ≤ l → l < w.heap.size + 2 → w.heap.size + 2 ≤ s → I s k W → I s k (W.putObj l o)) (hIx : ∀ c s W l o, w.heap.size ≤ l → l < w.heap.size + 2 → w.heap.size + 2 ≤ s → Ix c s W → Ix c s (W.putObj l o))
    (h0 : ∀ w1, Fut w w1 → w.heap.size + 2 ≤ w1.heap.size → I w1.heap.size 0 w1)
    (hbody : ∀ l s k W, w.heap.size ≤ l → l < w.heap.size + 2 → w.heap.size + 2 ≤ s → s ≤ W.heap.size → k < N → I s k W → (∃ r, W.heap[l]? = some (.loop r)) →
      assign.wpIn (Fence.wide.inRound l) 2 P (Exit.then (fun a₁ W₁ => Mid w.heap.size s W W₁ ∧ ∀ o, body.wpIn (Fence.wide.inRound l) 2 P (roundOut w.heap.size s (I s (k + 1)) (fun c => Ix c s) (W₁.putObj l o)) a₁ (W₁.putObj l o)) (fun _ _ _ => False))
        { tmps := (ps.zip (args k)).foldl (fun t (p, v) => t.setIfInBounds p v) a.tmps, defers := [] } W)
    (hdone : ∀ s W, w.heap.size + 2 ≤ s → I s N W → W.heap[w.heap.size]? = some (.deferred (some [])) → Q .normal { a with defers := { target := .collected w.heap.size, args := #[] } :: a.defers } W)
    (hstop : ∀ s c W, w.heap.size + 2 ≤ s → Ix c s W → W.heap[w.heap.size]? = some (.deferred (some [])) → c.wp P Q { a with defers := { target := .collected w.heap.size, args := #[] } :: a.defers } W) :
    (Code.rangeFunc g ps assign body).wp P Q a w := by
  refine (wpIn_wide (n := 3)).1 (wpIn_rangeFunc ?_)
  intro fn hfn
  obtain ⟨rec, hrec⟩ : ∃ rec : LoopState → Option Code → Loop, rec = fun st pe => { state := st, pending := pe, fn, tmps := a.tmps, params := ps, assign, body, defers := w.heap.size } := ⟨_, rfl⟩
  obtain ⟨W1, hW1⟩ : ∃ W1, (w.alloc (.deferred (some []))).alloc (.loop (rec .ready none)) = W1 := ⟨_, rfl⟩
  have hL1 : W1.heap[w.heap.size + 1]? = some (.loop (rec .ready none)) := by
    rw [← hW1]; have := World.alloc_heap_new (w.alloc (.deferred (some []))) (.loop (rec .ready none)); rwa [World.size_alloc] at this
  have hK1 : W1.heap[w.heap.size]? = some (.deferred (some [])) := by
    rw [← hW1]; exact (Below.heap_alloc _ _ _ (by simp)).trans (World.alloc_heap_new w _)
  have hf1 : Fut w W1 := by rw [← hW1]; exact (Fut.alloc _ _).trans (Fut.alloc _ _)
  have hs1 : W1.heap.size = w.heap.size + 2 := by rw [← hW1]; simp
  refine ⟨w.heap.size + 1, [{ target := .collected w.heap.size, args := #[] }], W1, { target := .fn (.func gf) lb, args := #[.func (.yield (w.heap.size + 1)) #[] #[]] }, W1, gf,
    #[.func (.yield (w.heap.size + 1)) #[] #[]] ++ lb, W1, ?_, ?_, ?_, ?_, fun h => by simp [Fence.wide] at h, ?_⟩
  · rw [← hW1, hrec]; exact run_enterLoop_outer _ _ _ _ _
  · simp only [resolve, hg]
    simp [go_sem]
  · intro f' hf'; trivial
  · simp [invoke, go_sem, eg]
  · refine callsIn_wide.2 ?_
    refine (hit W1 hf1 (w.heap.size + 1)
      (fun s k W => I (max s (w.heap.size + 2)) k W ∧ W.heap[w.heap.size + 1]? = some (.loop (rec .ready none)) ∧ W.heap[w.heap.size]? = some (.deferred (some [])))
      (fun s W => ∃ c, Ix c (max s (w.heap.size + 2)) W ∧ W.heap[w.heap.size + 1]? = some (.loop (rec .done (some c))) ∧ W.heap[w.heap.size]? = some (.deferred (some []))) ?_ (fun s k W W' hf hj => ⟨hIf _ _ _ _ hf hj.1, hf.block hj.2.1, hf.block hj.2.2⟩) ?_).mono ?_
    · intro w1 hf
      have hsz := hf.size
      refine ⟨?_, hf.block hL1, hf.block hK1⟩
      rw [Nat.max_eq_left (by omega)]
      exact h0 w1 (hf1.trans hf) (by omega)
    · rintro s k W hs hsW hk ⟨hi, hl, hd⟩
      rw [hs1] at hs
      rw [Nat.max_eq_left hs] at hi
      have hlt : w.heap.size + 1 < W.heap.size := (Array.getElem?_eq_some_iff.1 hl).1
      have hy := run_yield (P := P) (args := args k) hl (by rw [hrec]; exact hps k hk)
      rw [hrec] at hy
      refine ⟨fn, _, assign, body, hy, roundIn_of_wpIn hfn ?_⟩
      clear hy
      refine wpIn_mono (hbody (w.heap.size + 1) s k W (by omega) (by omega) hs hsW hk hi ⟨_, hl⟩) ?_
      intro e a1 Wa hp
      cases e with
      | normal =>
        obtain ⟨hm, hp⟩ := hp
        have hla : Wa.heap[w.heap.size + 1]? = some (.loop (rec .ready none)) := (hm.2 _ (by omega) (by omega)).trans hl
        have hda : Wa.heap[w.heap.size]? = some (.deferred (some [])) := (hm.2 _ (by omega) (by omega)).trans hd
        have hlta : w.heap.size + 1 < Wa.heap.size := (Array.getElem?_eq_some_iff.1 hla).1
        refine ⟨_, run_beginRound hla (by rw [hrec]), ?_⟩
        have hl2 : (Wa.putObj (w.heap.size + 1) (.loop { rec .ready none with state := .busy })).heap[w.heap.size + 1]? = some (.loop { rec .ready none with state := .busy }) := World.putObj_heap_same hlta
        have hd2 : (Wa.putObj (w.heap.size + 1) (.loop { rec .ready none with state := .busy })).heap[w.heap.size]? = some (.deferred (some [])) := (World.putObj_heap_other (by omega)).trans hda
        refine wpIn_mono (hp _) ?_
        have fin : ∀ (jump : Option Code) (W3 : World), Mid w.heap.size s (Wa.putObj (w.heap.size + 1) (.loop { rec .ready none with state := .busy })) W3 →
            (Instr.endRound (w.heap.size + 1) jump).run P W3 = .ok (.bool jump.isNone) (W3.putObj (w.heap.size + 1) (.loop (rec (if jump.isNone then .ready else .done) jump))) ∧
            (W3.putObj (w.heap.size + 1) (.loop (rec (if jump.isNone then .ready else .done) jump))).heap[w.heap.size + 1]? = some (.loop (rec (if jump.isNone then .ready else .done) jump)) ∧
            (W3.putObj (w.heap.size + 1) (.loop (rec (if jump.isNone then .ready else .done) jump))).heap[w.heap.size]? = some (.deferred (some [])) := fun jump W3 hk3 => by
          have hl3 := (hk3.2 (w.heap.size + 1) (by omega) (by omega)).trans hl2
          have hd3 := (hk3.2 w.heap.size (by omega) (by omega)).trans hd2
          have := run_endRound (P := P) jump hl3
          rw [hrec] at this ⊢
          exact ⟨this, World.putObj_heap_same (Array.getElem?_eq_some_iff.1 hl3).1, (World.putObj_heap_other (by omega)).trans hd3⟩
        rintro e a3 W3 hp
        have hput : ∀ o o' : Obj, Mid w.heap.size s (Wa.putObj (w.heap.size + 1) o) W3 → Mid W1.heap.size s W (W3.putObj (w.heap.size + 1) o') := fun o o' hm3 =>
          ⟨by rw [World.putObj_size]; have h1 := hm3.1; rw [World.putObj_size] at h1; exact Nat.le_trans hm.1 h1, fun j h1 h2 => by
            rw [hs1] at h1
            rw [World.putObj_heap_other (by omega), hm3.2 j (by omega) h2, World.putObj_heap_other (by omega), hm.2 j (by omega) h2]⟩
        cases e with
        | normal =>
          obtain ⟨hm3, hi3⟩ := hp
          obtain ⟨hr, hl4, hd4⟩ := fin none W3 hm3
          exact ⟨_, _, hr, .inl ⟨rfl, ⟨by rw [Nat.max_eq_left hs]; exact hI s _ _ _ _ (by omega) (by omega) hs hi3, hl4, hd4⟩, hput _ _ hm3⟩⟩
        | ret =>
          obtain ⟨hm3, hi3⟩ := hp
          obtain ⟨hr, hl4, hd4⟩ := fin (some .ret) W3 hm3
          exact ⟨_, _, hr, .inr ⟨rfl, .ret, by rw [Nat.max_eq_left hs]; exact hIx _ s _ _ _ (by omega) (by omega) hs hi3, hl4, hd4⟩⟩
        | exit id =>
          obtain ⟨hm3, hi3⟩ := hp
          obtain ⟨hr, hl4, hd4⟩ := fin (some (.exit id)) W3 hm3
          exact ⟨_, _, hr, .inr ⟨rfl, .exit id, by rw [Nat.max_eq_left hs]; exact hIx _ s _ _ _ (by omega) (by omega) hs hi3, hl4, hd4⟩⟩
        | goto t =>
          obtain ⟨hm3, hi3⟩ := hp
          obtain ⟨hr, hl4, hd4⟩ := fin (some (.goto t)) W3 hm3
          exact ⟨_, _, hr, .inr ⟨rfl, .goto t, by rw [Nat.max_eq_left hs]; exact hIx _ s _ _ _ (by omega) (by omega) hs hi3, hl4, hd4⟩⟩
        | panic ch => exact hp.elim
        | outgrown => exact hp.elim
      | ret => exact hp.elim
      | exit id => exact hp.elim
      | goto t => exact hp.elim
      | panic ch => exact hp.elim
      | outgrown => exact hp.elim
    · rintro e W2 ⟨⟨v, rfl⟩, (⟨s, hi, hl, hd⟩ | ⟨s, c, hi, hl, hd⟩)⟩
      · exact ⟨none, _, by have := run_endLoop (P := P) hl (by rw [hrec]; simp); rw [hrec] at this; exact this, hdone _ _ (Nat.le_max_right _ _) (hI _ _ _ _ _ (by omega) (by omega) (Nat.le_max_right _ _) hi) ((World.putObj_heap_other (by omega)).trans hd)⟩
      · exact ⟨some c, _, by have := run_endLoop (P := P) hl (by rw [hrec]; simp); rw [hrec] at this; exact this, (wpIn_wide (n := 3)).2 (hstop _ c _ (Nat.le_max_right _ _) (hIx _ _ _ _ _ (by omega) (by omega) (Nat.le_max_right _ _) hi) ((World.putObj_heap_other (by omega)).trans hd))⟩
end Go.Proofs.Ytcekphjcmippoaa
