/- A region that draws its order, whose first operation, a plain copy, may come at any time. No program. -/
import Derived.Test.YtcekphjcmippoaaGraph
namespace Go.Proofs.Ytcekphjcmippoaa
open Go.RowKit
set_option linter.unusedSimpArgs false
set_option linter.unusedVariables false

/-- The tail waits for all of the head but number 0. -/
def sink1B (ops : Array Oper) (n : Nat) : Bool :=
  (List.range n).all fun i => decide (i = 0) || (List.range (n + 1)).any fun j => decide (i < j) && Region.waitsFor .any ops j i
def sinkB0 (ops : Array Oper) (n : Nat) : Bool := decide (n = ops.size) || (sink1B ops n && Region.chainB .any ops n)
def tailB0 (ops : Array Oper) (n : Nat) : Bool := sinkB0 ops n && Region.seqB .any ops (ops.size - n) n (headDone n ops.size)
def takeB (ops : Array Oper) : Bool := match ops[0]? with
  | none => false
  | some o => (match o.guard with | none => true | some _ => false) && (match o.op with | .move (.tmp _) => true | _ => false) && Region.free .any ops (Array.replicate ops.size false) 0 && (Region.ready .any ops (Array.replicate ops.size false)).contains 0

theorem tail_waits0 {ops : Array Oper} {n : Nat} {listed : Array Bool} (hs : sink1B ops n = true) (hc : Region.chainB .any ops n = true) (hn : n < ops.size) (inv : HeadInv .any ops n listed) :
    ∀ (d i : Nat), n - i = d → i < n → i ≠ 0 → listed.getD i true = false → ∀ t, n ≤ t → t ∉ Region.ready .any ops listed := by
  intro d
  induction d using Nat.strongRecOn with
  | _ d ih =>
    intro i hd hi hi0 hun t ht hr
    obtain ⟨_, ot, hot, hall⟩ := mem_ready.1 hr
    have htlt : t < ops.size := (Array.getElem?_eq_some_iff.1 hot).1
    by_cases htn : t = n
    · subst htn
      have h1 := List.all_eq_true.1 hs i (List.mem_range.2 hi)
      simp only [hi0, decide_false, Bool.false_or] at h1
      obtain ⟨j, hj, hj2⟩ := List.any_eq_true.1 h1
      simp only [Bool.and_eq_true, decide_eq_true_eq] at hj2
      obtain ⟨oj, hoj, e, he, hb, hon⟩ := Region.waitsFor_spec hj2.2
      have hjle : j ≤ t := by have := List.mem_range.1 hj; omega
      by_cases hjt : j = t
      · subst hjt
        have : oj = ot := Option.some.inj (hoj.symm.trans hot)
        subst this
        have h2 := hall e he hb
        rw [hon, getD_both hun] at h2
        cases h2
      · cases hl : listed.getD j false with
        | true =>
          have h2 := inv.closed j oj hoj hl e he hb
          rw [hon, getD_both hun] at h2
          cases h2
        | false =>
          have hjs : j < listed.size := by rw [inv.size]; omega
          exact ih (t - j) (by omega) j rfl (by omega) (by omega) (getD_in hjs hl) t (Nat.le_refl _) hr
    · have h1 := List.all_eq_true.1 hc t (List.mem_range.2 htlt)
      simp only [Bool.or_eq_true, decide_eq_true_eq] at h1
      rcases h1 with h1 | h1
      · omega
      · obtain ⟨o', ho', e, he, hb, hon⟩ := Region.waitsFor_spec h1
        have : o' = ot := Option.some.inj (ho'.symm.trans hot)
        subst this
        have h2 := hall e he hb
        rw [hon, getD_both (inv.tail (t - 1) (by omega) (by omega))] at h2
        cases h2

theorem wp_region_graph0 {P : Program} {id : Nat} {Q : Exit → Act → World → Prop} {a0 : Act} {w : World} {l : List Oper} (n : Nat) (hm : P.follows .mixedOrders = true)
    (hB : (graphB l.toArray n && tailB0 l.toArray n) = true) (ht0 : takeB l.toArray = true) (hn0 : 0 < n) (hQ : ∀ c v w, ∀ a : Act, ∀ o, l[0]? = some o → Q (.panic c) (a.put o.dst v) w → Q (.panic c) a w) (hsz : ((List.range n).all fun k => match dstAt l.toArray k with | some d => decide (d < a0.tmps.size) | none => true) = true)
    (h : Obl P l.toArray w.drew a0 (wpList P l.toArray Q (l.drop n)) (l.take n) []) : (Code.region id l.toArray true).wp P Q a0 w := by
  simp only [Bool.and_eq_true, tailB0] at hB
  obtain ⟨hG, hS, hseq⟩ := hB
  obtain ⟨hsel, hns, hg⟩ := graphB_spec hG
  have hnl : n ≤ l.length := by simpa using hns
  have hbd : ∀ k d, dstAt l.toArray k = some d → k < n → d < a0.tmps.size := fun k d hd hk => by
    have := List.all_eq_true.1 hsz k (List.mem_range.2 hk)
    simpa [hd] using this
  obtain ⟨full, hfl, _, hob, hfin⟩ := Obl_split _ _ h
  simp only [List.length_nil, Nat.zero_add] at hfl hob
  have htl : (l.take n).length = n := by simp; omega
  rw [htl] at hfl
  -- the specifications
  obtain ⟨sp, hsp⟩ : ∃ sp : Nat → Sp, ∀ k, sp k = ((full[k]?).map (·.2)).getD (.det undef) := ⟨_, fun _ => rfl⟩
  have hfull : ∀ k, k < n → ∃ o, l[k]? = some o ∧ full[k]? = some (dstAt l.toArray k, sp k) ∧ (sp k).mono ∧
      ∀ w', Fut w.drew w' → lexAct o w' (fun a => givesG P l.toArray o a (sp k) w') 0 (full.take k) a0 := fun k hk => by
    have hlk : l[k]? = some (l[k]'(by omega)) := List.getElem?_eq_getElem (by omega)
    obtain ⟨s, hs, hmono, hlex⟩ := hob k _ (by rw [List.getElem?_take, if_pos hk]; exact hlk)
    have hspk : sp k = s := by rw [hsp, hs]; rfl
    refine ⟨_, hlk, ?_, by rw [hspk]; exact hmono, by rw [hspk]; exact hlex⟩
    rw [hs, hspk]
    simp [dstAt, hlk]
  refine wp_region_any hm ?_
  have main : ∀ (f : Nat) (listed : Array Bool) (a : Act) (w' : World) (vs : Nat → Value), GInv l.toArray n sp a0 w.drew vs listed a w' → listed.getD 0 false = true → unl listed n = f →
      wpAny P .any l.toArray Q (f + (l.length - n)) listed a w' := by
    intro f
    induction f with
    | zero =>
      intro listed a w' vs inv hl0 hf
      rw [Nat.zero_add]
      have hlisted : listed = headDone n l.length := by
        refine Array.ext_getElem? fun t => ?_
        by_cases ht : t < l.length
        · have hts : t < listed.size := by rw [inv.lsize]; simpa using ht
          have h2 : (headDone n l.length)[t]? = some (decide (t < n)) := by simp [headDone, ht]
          rw [h2, Array.getElem?_eq_getElem hts]
          by_cases htn : t < n
          · have := unl_zero n hf t htn
            simp [hts] at this
            simp [htn, this]
          · have := inv.tail t (by omega) (by simpa using ht)
            simp [hts] at this
            simp [htn, this]
        · rw [Array.getElem?_eq_none (by rw [inv.lsize]; simp; omega), Array.getElem?_eq_none (by simp [headDone]; omega)]
      have hlast := lexFin_inst (K := fun a => wpList P l.toArray Q (l.drop n) a w') vs full 0 a0 (hfin w' inv.fut) fun j d S hj => by
        rw [Nat.zero_add]
        have hjn : j < n := by rw [← hfl]; exact (List.getElem?_eq_some_iff.1 hj).1
        obtain ⟨_, _, h1, _, _⟩ := hfull j hjn
        rw [hj] at h1
        simp only [Option.some.injEq, Prod.mk.injEq] at h1
        have := inv.held j hjn (unl_zero n hf j hjn)
        rw [← h1.2] at this
        exact this
      have hact : a = putAll vs 0 full a0 := by
        refine act_ext (fun t => ?_) ?_
        · by_cases hex : ∃ k, k < n ∧ dstAt l.toArray k = some t
          · obtain ⟨k, hk, hkd⟩ := hex
            obtain ⟨_, _, h1, _, _⟩ := hfull k hk
            rw [hkd] at h1
            rw [inv.slot k t hk (unl_zero n hf k hk) hkd, putAll_at vs t full 0 a0 k (sp k) (hbd k t hkd hk) h1, Nat.zero_add]
            · have h2 := inv.held k hk (unl_zero n hf k hk)
              cases hs : sp k with
              | det c => rw [hs] at h2; simp only [Sp.holds] at h2; rw [h2]; rfl
              | rel S => rfl
            · intro j d s' hj hd
              have hjn : j < n := by rw [← hfl]; exact (List.getElem?_eq_some_iff.1 hj).1
              obtain ⟨_, _, h3, _, _⟩ := hfull j hjn
              rw [hj] at h3
              simp only [Option.some.injEq, Prod.mk.injEq] at h3
              have hjd : dstAt l.toArray j = some t := h3.1.symm.trans hd
              rcases Nat.lt_trichotomy j k with h' | h' | h'
              · obtain ⟨ok, hok, _, hd2, _⟩ := hg k hk
                exact absurd hjd (hd2 t (by simpa [dstAt, hok] using hkd) j h')
              · exact h'
              · obtain ⟨oj, hoj, _, hd2, _⟩ := hg j hjn
                exact absurd hkd (hd2 t (by simpa [dstAt, hoj] using hjd) k h')
          · rw [inv.free t fun k hk _ hd => hex ⟨k, hk, hd⟩, putAll_other]
            intro d s hmem hd
            obtain ⟨j, hj⟩ := List.getElem?_of_mem hmem
            have hjn : j < n := by rw [← hfl]; exact (List.getElem?_eq_some_iff.1 hj).1
            obtain ⟨_, _, h3, _, _⟩ := hfull j hjn
            rw [hj] at h3
            simp only [Option.some.injEq, Prod.mk.injEq] at h3
            exact hex ⟨j, hjn, h3.1.symm.trans hd⟩
        · rw [inv.defers]
          have : ∀ (acc : List (Option Tmp × Sp)) (k : Nat) (b : Act), (putAll vs k acc b).defers = b.defers := by
            intro acc
            induction acc with
            | nil => intro k b; rfl
            | cons x r ih =>
              intro k b
              obtain ⟨d, s⟩ := x
              cases s <;> simp only [putAll] <;> rw [ih, put_defers']
          rw [this]
      rw [← hact] at hlast
      have := wpAny_of_seq (md := .any) (P := P) (Q' := Q) (l.drop n) n listed a w' (fun j => by simp [List.getElem?_drop])
        (by rw [hlisted, List.length_drop]; simpa using hseq) hlast
      rwa [List.length_drop] at this
    | succ f ih =>
      intro listed a w' vs inv hl0 hf
      obtain ⟨i0, hi0, hi1, hi2⟩ := unl_some n (by rw [hf]; omega)
      have hils : ∀ i, i < n → i < listed.size := fun i hi => by rw [inv.lsize]; simp; omega
      have hready : i0 ∈ Region.ready .any l.toArray listed := by
        obtain ⟨o, ho, hedge, _⟩ := hg i0 hi0
        exact mem_ready.2 ⟨getD_in (hils i0 hi0) hi1, o, ho, fun e he hb => hi2 _ (hedge e he hb)⟩
      rw [show f + 1 + (l.length - n) = (f + (l.length - n)) + 1 by omega]
      refine ⟨fun h0 => (by rw [h0] at hready; cases hready), fun i hi => ?_⟩
      have hin : i < n := by
        rcases Nat.lt_or_ge i n with h' | h'
        · exact h'
        · exfalso
          have hisz : i < l.toArray.size := by
            obtain ⟨_, o, ho, _⟩ := mem_ready.1 hi
            exact (Array.getElem?_eq_some_iff.1 ho).1
          simp only [sinkB0, Bool.or_eq_true, decide_eq_true_eq, Bool.and_eq_true] at hS
          rcases hS with hS | ⟨hs, hc⟩
          · omega
          · exact tail_waits0 hs hc (by omega) ⟨inv.lsize, inv.closed, inv.tail⟩ _ i0 rfl hi0 (fun e => by rw [e, hl0] at hi1; cases hi1) (getD_in (hils i0 hi0) hi1) i h' hi
      refine inv.step (full := full) (Q := Q) hG hbd (fun k hk => (by obtain ⟨_, _, h1, _, _⟩ := hfull k hk; exact h1)) hfl (fun k hk => (by obtain ⟨_, _, _, h1, _⟩ := hfull k hk; exact h1))
        (fun o ho => (by
          obtain ⟨o', ho', _, _, h1⟩ := hfull i hin
          have : o = o' := Option.some.inj ((by simpa using ho.symm : some o = l[i]?).trans ho')
          subst this
          exact h1)) hi hin fun v a' w'' inv' => ih _ a' w'' _ inv' (by
          by_cases hi0' : i = 0
          · subst hi0'; have := (mem_ready.1 hi).1; rw [getD_both this] at hl0; cases hl0
          · rw [getD_set_ne false hi0']; exact hl0) ?_
      have hun := getD_both (mem_ready.1 hi).1
      have := unl_set hun (hils i hin) n hin
      omega
  obtain ⟨o0, hl0, h1, _, hlex0⟩ := hfull 0 hn0
  have hi0 : l.toArray[0]? = some o0 := by simpa using hl0
  unfold takeB at ht0
  rw [hi0] at ht0
  simp only [Bool.and_eq_true] at ht0
  obtain ⟨⟨⟨hgd, hmv⟩, hfree⟩, hrdy⟩ := ht0
  have hwant : Region.wanted o0 (yielded l.toArray a0.tmps) = true := by
    unfold Region.wanted
    cases hg' : o0.guard with
    | none => rfl
    | some x => rw [hg'] at hgd; cases hgd
  obtain ⟨y, hop⟩ : ∃ y, o0.op = .move (.tmp y) := by
    split at hmv
    · rename_i y hop; exact ⟨y, hop⟩
    · cases hmv
  have hexec : ∀ w', (execOp a0.eval o0).run P w' = .ok (.value (a0.eval (.tmp y))) w' := fun w' => by
    unfold execOp
    simp only [hop, Sem.run_pure]
  have hS0 : ∀ w', Fut w.drew w' → (sp 0).holds (a0.eval (.tmp y)) w' := fun w' hw' => by
    have h2 := hlex0 w' hw'
    simp only [List.take_zero, lexAct, givesG] at h2
    rw [if_pos hwant] at h2
    unfold gives at h2
    rw [hexec w'] at h2
    exact h2.2
  have hsz0 : l.toArray.size = (l.toArray.size - 1) + 1 := by
    have := (Array.getElem?_eq_some_iff.1 hi0).1
    omega
  have hd0 : dstAt l.toArray 0 = o0.dst := by unfold dstAt; rw [hi0]; rfl
  rw [hsz0]
  refine wpAny_take hi0 hsel (by rw [← hsz0]; exact hfree) (by rw [← hsz0]; exact hrdy) (fun c a w => hQ c _ w a o0 hl0) (.inl ⟨hwant, hexec⟩) ?_
  have hLs : 0 < (Array.replicate (l.toArray.size - 1 + 1) false).size := by simp
  have hcl : ∀ j, ((Array.replicate (l.toArray.size - 1 + 1) false).setIfInBounds 0 true).getD j false = true → j = 0 := fun j hj => by
    by_cases hj0 : j = 0
    · exact hj0
    · rw [getD_set_ne false (Ne.symm hj0), getD_replicate_false] at hj; cases hj
  have inv0 : GInv l.toArray n sp a0 w.drew (fun _ => a0.eval (.tmp y)) ((Array.replicate (l.toArray.size - 1 + 1) false).setIfInBounds 0 true) (a0.put o0.dst (a0.eval (.tmp y))) w.drew := by
    refine ⟨by rw [put_size], by rw [put_defers'], Fut.refl _, fun t ht => ?_, fun k hk hl => ?_, fun k d hk hl hd => ?_, by rw [Array.size_setIfInBounds, Array.size_replicate]; exact hsz0.symm, fun j oj hj hl e he hb => ?_, fun t ht ht' => ?_⟩
    · rw [put_other _ _ _ _ (by rw [← hd0]; exact ht 0 hn0 (by simp))]
    · rw [hcl k hl]; exact hS0 _ (Fut.refl _)
    · have hk0 := hcl k hl
      subst hk0
      rw [hd0] at hd
      rw [hd]
      exact put_same _ _ _ (hbd 0 d (hd0.trans hd) hn0)
    · have hj0 := hcl j hl
      subst hj0
      obtain ⟨o', ho', hedge, _⟩ := hg 0 hn0
      have : oj = o' := Option.some.inj (hj.symm.trans ho')
      subst this
      exact absurd (hedge e he hb) (by omega)
    · rw [getD_set_ne true (by omega)]
      exact getD_in (by rw [Array.size_replicate, ← hsz0]; exact ht') (getD_replicate_false _ _)
  have hun : unl ((Array.replicate (l.toArray.size - 1 + 1) false).setIfInBounds 0 true) n + 1 = n := by
    rw [unl_set (getD_replicate_false _ _) (by simp) n hn0, unl_none]
  have := main (n - 1) _ _ _ _ inv0 (by simp) (by omega)
  rwa [show n - 1 + (l.length - n) = l.toArray.size - 1 by simp; omega] at this

theorem wp_graph0 {P : Program} {id : Nat} {Q : Exit → Act → World → Prop} {a0 : Act} {w : World} {l : List Oper} (n : Nat) (shape : List Sh) (hm : P.follows .mixedOrders = true)
    (hB : (graphB l.toArray n && tailB0 l.toArray n) = true) (ht0 : takeB l.toArray = true) (hn0 : 0 < n) (hQ : ∀ c v w, ∀ a : Act, ∀ o, l[0]? = some o → Q (.panic c) (a.put o.dst v) w → Q (.panic c) a w) (hsz : ((List.range n).all fun k => match dstAt l.toArray k with | some d => decide (d < a0.tmps.size) | none => true) = true)
    (h : Exs (fun sps => Run P l.toArray w.drew (wpList P l.toArray Q (l.drop n)) 0 (l.take n) sps a0 []) shape) : (Code.region id l.toArray true).wp P Q a0 w := by
  obtain ⟨sps, hs⟩ := Exs_some shape h
  exact wp_region_graph0 n hm hB ht0 hn0 hQ hsz (Obl_of_run _ sps [] fun _ => hs)
end Go.Proofs.Ytcekphjcmippoaa
