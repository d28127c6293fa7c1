/- Graph0, Tup, OwnAt, Fill, RelP -/
import Derived.Maps.AppendAt
import Derived.Great.BuildSlice
import Derived.Test.YtcekphjcmippoaaC03
/- A region that draws its order, whose first operation, a plain copy, may come at any time. No program. -/
namespace Go.Proofs.Ytcekphjcmippoaa
open Go.RowKit
set_option linter.unusedSimpArgs false
set_option linter.unusedVariables false

/-- The tail waits for all of the head but number 0. -/
def sink1B (ops : Array Oper) (n : Nat) : Bool :=
  (List.range n).all fun i => decide (i = 0) || (List.range (n + 1)).any fun j => decide (i < j) && Region.waitsFor .any ops j i
def sinkB0 (ops : Array Oper) (n : Nat) : Bool := decide (n = ops.size) || (sink1B ops n && Region.chainB .any ops n)
def tailB0 (ops : Array Oper) (n : Nat) : Bool := sinkB0 ops n && Region.seqB .any ops (ops.size - n) n (headDone n ops.size)
def takeB (ops : Array Oper) : Bool := match ops[0]? with
  | none => false
  | some o => (match o.guard with | none => true | some _ => false) && (match o.op with | .move (.tmp _) => true | _ => false) && Region.free .any ops (Array.replicate ops.size false) 0 && (Region.ready .any ops (Array.replicate ops.size false)).contains 0

theorem tail_waits0 {ops : Array Oper} {n : Nat} {listed : Array Bool} (hs : sink1B ops n = true) (hc : Region.chainB .any ops n = true) (hn : n < ops.size) (inv : HeadInv .any ops n listed) :
    ∀ (d i : Nat), n - i = d → i < n → i ≠ 0 → listed.getD i true = false → ∀ t, n ≤ t → t ∉ Region.ready .any ops listed := by
  intro d
  induction d using Nat.strongRecOn with
  | _ d ih =>
    intro i hd hi hi0 hun t ht hr
    obtain ⟨_, ot, hot, hall⟩ := mem_ready.1 hr
    have htlt : t < ops.size := (Array.getElem?_eq_some_iff.1 hot).1
    by_cases htn : t = n
    · subst htn
      have h1 := List.all_eq_true.1 hs i (List.mem_range.2 hi)
      simp only [hi0, decide_false, Bool.false_or] at h1
      obtain ⟨j, hj, hj2⟩ := List.any_eq_true.1 h1
      simp only [Bool.and_eq_true, decide_eq_true_eq] at hj2
      obtain ⟨oj, hoj, e, he, hb, hon⟩ := Region.waitsFor_spec hj2.2
      have hjle : j ≤ t := by have := List.mem_range.1 hj; omega
      by_cases hjt : j = t
      · subst hjt
        have : oj = ot := Option.some.inj (hoj.symm.trans hot)
        subst this
        have h2 := hall e he hb
        rw [hon, getD_both hun] at h2
        cases h2
      · cases hl : listed.getD j false with
        | true =>
          have h2 := inv.closed j oj hoj hl e he hb
          rw [hon, getD_both hun] at h2
          cases h2
        | false =>
          have hjs : j < listed.size := by rw [inv.size]; omega
          exact ih (t - j) (by omega) j rfl (by omega) (by omega) (getD_in hjs hl) t (Nat.le_refl _) hr
    · have h1 := List.all_eq_true.1 hc t (List.mem_range.2 htlt)
      simp only [Bool.or_eq_true, decide_eq_true_eq] at h1
      rcases h1 with h1 | h1
      · omega
      · obtain ⟨o', ho', e, he, hb, hon⟩ := Region.waitsFor_spec h1
        have : o' = ot := Option.some.inj (ho'.symm.trans hot)
        subst this
        have h2 := hall e he hb
        rw [hon, getD_both (inv.tail (t - 1) (by omega) (by omega))] at h2
        cases h2

theorem wp_region_graph0 {P : Program} {id : Nat} {Q : Exit → Act → World → Prop} {a0 : Act} {w : World} {l : List Oper} (n : Nat) (hm : P.follows .mixedOrders = true)
    (hB : (graphB l.toArray n && tailB0 l.toArray n) = true) (ht0 : takeB l.toArray = true) (hn0 : 0 < n) (hQ : ∀ c v w, ∀ a : Act, ∀ o, l[0]? = some o → Q (.panic c) (a.put o.dst v) w → Q (.panic c) a w) (hsz : ((List.range n).all fun k => match dstAt l.toArray k with | some d => decide (d < a0.tmps.size) | none => true) = true)
    (h : Obl P l.toArray w.drew a0 (wpList P l.toArray Q (l.drop n)) (l.take n) []) : (Code.region id l.toArray true).wp P Q a0 w := by
  simp only [Bool.and_eq_true, tailB0] at hB
  obtain ⟨hG, hS, hseq⟩ := hB
  obtain ⟨hsel, hns, hg⟩ := graphB_spec hG
  have hnl : n ≤ l.length := by simpa using hns
  have hbd : ∀ k d, dstAt l.toArray k = some d → k < n → d < a0.tmps.size := fun k d hd hk => by
    have := List.all_eq_true.1 hsz k (List.mem_range.2 hk)
    simpa [hd] using this
  obtain ⟨full, hfl, _, hob, hfin⟩ := Obl_split _ _ h
  simp only [List.length_nil, Nat.zero_add] at hfl hob
  have htl : (l.take n).length = n := by simp; omega
  rw [htl] at hfl
  -- the specifications
  obtain ⟨sp, hsp⟩ : ∃ sp : Nat → Sp, ∀ k, sp k = ((full[k]?).map (·.2)).getD (.det undef) := ⟨_, fun _ => rfl⟩
  have hfull : ∀ k, k < n → ∃ o, l[k]? = some o ∧ full[k]? = some (dstAt l.toArray k, sp k) ∧ (sp k).mono ∧
      ∀ w', Fut w.drew w' → lexAct o w' (fun a => givesG P l.toArray o a (sp k) w') 0 (full.take k) a0 := fun k hk => by
    have hlk : l[k]? = some (l[k]'(by omega)) := List.getElem?_eq_getElem (by omega)
    obtain ⟨s, hs, hmono, hlex⟩ := hob k _ (by rw [List.getElem?_take, if_pos hk]; exact hlk)
    have hspk : sp k = s := by rw [hsp, hs]; rfl
    refine ⟨_, hlk, ?_, by rw [hspk]; exact hmono, by rw [hspk]; exact hlex⟩
    rw [hs, hspk]
    simp [dstAt, hlk]
  refine wp_region_any hm ?_
  have main : ∀ (f : Nat) (listed : Array Bool) (a : Act) (w' : World) (vs : Nat → Value), GInv l.toArray n sp a0 w.drew vs listed a w' → listed.getD 0 false = true → unl listed n = f →
      wpAny P .any l.toArray Q (f + (l.length - n)) listed a w' := by
    intro f
    induction f with
    | zero =>
      intro listed a w' vs inv hl0 hf
      rw [Nat.zero_add]
      have hlisted : listed = headDone n l.length := by
        refine Array.ext_getElem? fun t => ?_
        by_cases ht : t < l.length
        · have hts : t < listed.size := by rw [inv.lsize]; simpa using ht
          have h2 : (headDone n l.length)[t]? = some (decide (t < n)) := by simp [headDone, ht]
          rw [h2, Array.getElem?_eq_getElem hts]
          by_cases htn : t < n
          · have := unl_zero n hf t htn
            simp [hts] at this
            simp [htn, this]
          · have := inv.tail t (by omega) (by simpa using ht)
            simp [hts] at this
            simp [htn, this]
        · rw [Array.getElem?_eq_none (by rw [inv.lsize]; simp; omega), Array.getElem?_eq_none (by simp [headDone]; omega)]
      have hlast := lexFin_inst (K := fun a => wpList P l.toArray Q (l.drop n) a w') vs full 0 a0 (hfin w' inv.fut) fun j d S hj => by
        rw [Nat.zero_add]
        have hjn : j < n := by rw [← hfl]; exact (List.getElem?_eq_some_iff.1 hj).1
        obtain ⟨_, _, h1, _, _⟩ := hfull j hjn
        rw [hj] at h1
        simp only [Option.some.injEq, Prod.mk.injEq] at h1
        have := inv.held j hjn (unl_zero n hf j hjn)
        rw [← h1.2] at this
        exact this
      have hact : a = putAll vs 0 full a0 := by
        refine act_ext (fun t => ?_) ?_
        · by_cases hex : ∃ k, k < n ∧ dstAt l.toArray k = some t
          · obtain ⟨k, hk, hkd⟩ := hex
            obtain ⟨_, _, h1, _, _⟩ := hfull k hk
            rw [hkd] at h1
            rw [inv.slot k t hk (unl_zero n hf k hk) hkd, putAll_at vs t full 0 a0 k (sp k) (hbd k t hkd hk) h1, Nat.zero_add]
            · have h2 := inv.held k hk (unl_zero n hf k hk)
              cases hs : sp k with
              | det c => rw [hs] at h2; simp only [Sp.holds] at h2; rw [h2]; rfl
              | rel S => rfl
            · intro j d s' hj hd
              have hjn : j < n := by rw [← hfl]; exact (List.getElem?_eq_some_iff.1 hj).1
              obtain ⟨_, _, h3, _, _⟩ := hfull j hjn
              rw [hj] at h3
              simp only [Option.some.injEq, Prod.mk.injEq] at h3
              have hjd : dstAt l.toArray j = some t := h3.1.symm.trans hd
              rcases Nat.lt_trichotomy j k with h' | h' | h'
              · obtain ⟨ok, hok, _, hd2, _⟩ := hg k hk
                exact absurd hjd (hd2 t (by simpa [dstAt, hok] using hkd) j h')
              · exact h'
              · obtain ⟨oj, hoj, _, hd2, _⟩ := hg j hjn
                exact absurd hkd (hd2 t (by simpa [dstAt, hoj] using hjd) k h')
          · rw [inv.free t fun k hk _ hd => hex ⟨k, hk, hd⟩, putAll_other]
            intro d s hmem hd
            obtain ⟨j, hj⟩ := List.getElem?_of_mem hmem
            have hjn : j < n := by rw [← hfl]; exact (List.getElem?_eq_some_iff.1 hj).1
            obtain ⟨_, _, h3, _, _⟩ := hfull j hjn
            rw [hj] at h3
            simp only [Option.some.injEq, Prod.mk.injEq] at h3
            exact hex ⟨j, hjn, h3.1.symm.trans hd⟩
        · rw [inv.defers]
          have : ∀ (acc : List (Option Tmp × Sp)) (k : Nat) (b : Act), (putAll vs k acc b).defers = b.defers := by
            intro acc
            induction acc with
            | nil => intro k b; rfl
            | cons x r ih =>
              intro k b
              obtain ⟨d, s⟩ := x
              cases s <;> simp only [putAll] <;> rw [ih, put_defers']
          rw [this]
      rw [← hact] at hlast
      have := wpAny_of_seq (md := .any) (P := P) (Q' := Q) (l.drop n) n listed a w' (fun j => by simp [List.getElem?_drop])
        (by rw [hlisted, List.length_drop]; simpa using hseq) hlast
      rwa [List.length_drop] at this
    | succ f ih =>
      intro listed a w' vs inv hl0 hf
      obtain ⟨i0, hi0, hi1, hi2⟩ := unl_some n (by rw [hf]; omega)
      have hils : ∀ i, i < n → i < listed.size := fun i hi => by rw [inv.lsize]; simp; omega
      have hready : i0 ∈ Region.ready .any l.toArray listed := by
        obtain ⟨o, ho, hedge, _⟩ := hg i0 hi0
        exact mem_ready.2 ⟨getD_in (hils i0 hi0) hi1, o, ho, fun e he hb => hi2 _ (hedge e he hb)⟩
      rw [show f + 1 + (l.length - n) = (f + (l.length - n)) + 1 by omega]
      refine ⟨fun h0 => (by rw [h0] at hready; cases hready), fun i hi => ?_⟩
      have hin : i < n := by
        rcases Nat.lt_or_ge i n with h' | h'
        · exact h'
        · exfalso
          have hisz : i < l.toArray.size := by
            obtain ⟨_, o, ho, _⟩ := mem_ready.1 hi
            exact (Array.getElem?_eq_some_iff.1 ho).1
          simp only [sinkB0, Bool.or_eq_true, decide_eq_true_eq, Bool.and_eq_true] at hS
          rcases hS with hS | ⟨hs, hc⟩
          · omega
          · exact tail_waits0 hs hc (by omega) ⟨inv.lsize, inv.closed, inv.tail⟩ _ i0 rfl hi0 (fun e => by rw [e, hl0] at hi1; cases hi1) (getD_in (hils i0 hi0) hi1) i h' hi
      refine inv.step (full := full) (Q := Q) hG hbd (fun k hk => (by obtain ⟨_, _, h1, _, _⟩ := hfull k hk; exact h1)) hfl (fun k hk => (by obtain ⟨_, _, _, h1, _⟩ := hfull k hk; exact h1))
        (fun o ho => (by
          obtain ⟨o', ho', _, _, h1⟩ := hfull i hin
          have : o = o' := Option.some.inj ((by simpa using ho.symm : some o = l[i]?).trans ho')
          subst this
          exact h1)) hi hin fun v a' w'' inv' => ih _ a' w'' _ inv' (by
          by_cases hi0' : i = 0
          · subst hi0'; have := (mem_ready.1 hi).1; rw [getD_both this] at hl0; cases hl0
          · rw [getD_set_ne false hi0']; exact hl0) ?_
      have hun := getD_both (mem_ready.1 hi).1
      have := unl_set hun (hils i hin) n hin
      omega
  obtain ⟨o0, hl0, h1, _, hlex0⟩ := hfull 0 hn0
  have hi0 : l.toArray[0]? = some o0 := by simpa using hl0
  unfold takeB at ht0
  rw [hi0] at ht0
  simp only [Bool.and_eq_true] at ht0
  obtain ⟨⟨⟨hgd, hmv⟩, hfree⟩, hrdy⟩ := ht0
  have hwant : Region.wanted o0 (yielded l.toArray a0.tmps) = true := by
    unfold Region.wanted
    cases hg' : o0.guard with
    | none => rfl
    | some x => rw [hg'] at hgd; cases hgd
  obtain ⟨y, hop⟩ : ∃ y, o0.op = .move (.tmp y) := by
    split at hmv
    · rename_i y hop; exact ⟨y, hop⟩
    · cases hmv
  have hexec : ∀ w', (execOp a0.eval o0).run P w' = .ok (.value (a0.eval (.tmp y))) w' := fun w' => by
    unfold execOp
    simp only [hop, Sem.run_pure]
  have hS0 : ∀ w', Fut w.drew w' → (sp 0).holds (a0.eval (.tmp y)) w' := fun w' hw' => by
    have h2 := hlex0 w' hw'
    simp only [List.take_zero, lexAct, givesG] at h2
    rw [if_pos hwant] at h2
    unfold gives at h2
    rw [hexec w'] at h2
    exact h2.2
  have hsz0 : l.toArray.size = (l.toArray.size - 1) + 1 := by
    have := (Array.getElem?_eq_some_iff.1 hi0).1
    omega
  have hd0 : dstAt l.toArray 0 = o0.dst := by unfold dstAt; rw [hi0]; rfl
  rw [hsz0]
  refine wpAny_take hi0 hsel (by rw [← hsz0]; exact hfree) (by rw [← hsz0]; exact hrdy) (fun c a w => hQ c _ w a o0 hl0) (.inl ⟨hwant, hexec⟩) ?_
  have hLs : 0 < (Array.replicate (l.toArray.size - 1 + 1) false).size := by simp
  have hcl : ∀ j, ((Array.replicate (l.toArray.size - 1 + 1) false).setIfInBounds 0 true).getD j false = true → j = 0 := fun j hj => by
    by_cases hj0 : j = 0
    · exact hj0
    · rw [getD_set_ne false (Ne.symm hj0), getD_replicate_false] at hj; cases hj
  have inv0 : GInv l.toArray n sp a0 w.drew (fun _ => a0.eval (.tmp y)) ((Array.replicate (l.toArray.size - 1 + 1) false).setIfInBounds 0 true) (a0.put o0.dst (a0.eval (.tmp y))) w.drew := by
    refine ⟨by rw [put_size], by rw [put_defers'], Fut.refl _, fun t ht => ?_, fun k hk hl => ?_, fun k d hk hl hd => ?_, by rw [Array.size_setIfInBounds, Array.size_replicate]; exact hsz0.symm, fun j oj hj hl e he hb => ?_, fun t ht ht' => ?_⟩
    · rw [put_other _ _ _ _ (by rw [← hd0]; exact ht 0 hn0 (by simp))]
    · rw [hcl k hl]; exact hS0 _ (Fut.refl _)
    · have hk0 := hcl k hl
      subst hk0
      rw [hd0] at hd
      rw [hd]
      exact put_same _ _ _ (hbd 0 d (hd0.trans hd) hn0)
    · have hj0 := hcl j hl
      subst hj0
      obtain ⟨o', ho', hedge, _⟩ := hg 0 hn0
      have : oj = o' := Option.some.inj (hj.symm.trans ho')
      subst this
      exact absurd (hedge e he hb) (by omega)
    · rw [getD_set_ne true (by omega)]
      exact getD_in (by rw [Array.size_replicate, ← hsz0]; exact ht') (getD_replicate_false _ _)
  have hun : unl ((Array.replicate (l.toArray.size - 1 + 1) false).setIfInBounds 0 true) n + 1 = n := by
    rw [unl_set (getD_replicate_false _ _) (by simp) n hn0, unl_none]
  have := main (n - 1) _ _ _ _ inv0 (by simp) (by omega)
  rwa [show n - 1 + (l.length - n) = l.toArray.size - 1 by simp; omega] at this

theorem wp_graph0 {P : Program} {id : Nat} {Q : Exit → Act → World → Prop} {a0 : Act} {w : World} {l : List Oper} (n : Nat) (shape : List Sh) (hm : P.follows .mixedOrders = true)
    (hB : (graphB l.toArray n && tailB0 l.toArray n) = true) (ht0 : takeB l.toArray = true) (hn0 : 0 < n) (hQ : ∀ c v w, ∀ a : Act, ∀ o, l[0]? = some o → Q (.panic c) (a.put o.dst v) w → Q (.panic c) a w) (hsz : ((List.range n).all fun k => match dstAt l.toArray k with | some d => decide (d < a0.tmps.size) | none => true) = true)
    (h : Exs (fun sps => Run P l.toArray w.drew (wpList P l.toArray Q (l.drop n)) 0 (l.take n) sps a0 []) shape) : (Code.region id l.toArray true).wp P Q a0 w := by
  obtain ⟨sps, hs⟩ := Exs_some shape h
  exact wp_region_graph0 n hm hB ht0 hn0 hQ hsz (Obl_of_run _ sps [] fun _ => hs)
end Go.Proofs.Ytcekphjcmippoaa
/- Lists of tuples and lists of facts: as arguments hold them, as the call's own; append. No program. -/
namespace Go.Proofs.Ytcekphjcmippoaa
open Go.RowKit
set_option linter.unusedSimpArgs false
set_option linter.unusedVariables false

/-! ### Within: tuples of any make -/
def RT (w : World) (cs : List Value) (xs : List V) : Prop := ∃ v, cs = [v] ∧ Vals w v xs
theorem RT.stays : Stays RT := fun _ _ _ _ hf ⟨v, h1, h2⟩ => ⟨v, h1, h2.fut RV.stays hf⟩
abbrev Tups : World → Value → List (List V) → Prop := SlRep 1 9223372036854775807 RT
abbrev TupsA : World → Value → List (List V) → Prop := SlRep 1 5864062014805 (SlR 3 4398046511104 RV)
theorem TupsA.tups {w : World} {v : Value} {ts : List (List V)} (h : TupsA w v ts) : Tups w v ts :=
  (SlRep.imp h fun cs x ⟨v, h1, h2⟩ => (⟨v, h1, ValsA.vals h2⟩ : RT w cs x)).more (by omega)
theorem Tups.at_ {w : World} {A : Option Addr} {n cap : Nat} {ts : List (List V)} (h : Tups w (.slice A n cap) ts) {k : Nat} (hk : k < ts.length) :
    ∃ b off A' cap', A = some ⟨b, off, none⟩ ∧ w.cell? ⟨b, off + k, none⟩ = some (.slice A' (ts[k]).length cap') ∧ (ts[k]).length ≤ cap' ∧ cap' ≤ 9223372036854775807 ∧ Vals w (.slice A' (ts[k]).length cap') ts[k] := by
  obtain ⟨A1, cap1, hv, _, _, h3⟩ := h
  obtain ⟨b, off, cs, hA, hl, hc, u, hr, hu⟩ := h3 k _ (List.getElem?_eq_getElem hk)
  injection hv with hv _ _
  subst hr
  obtain ⟨A', cap', rfl, h4, h5⟩ := SlRep.form hu
  exact ⟨b, off, A', cap', hv.trans hA, by have := hc 0 _ rfl; simpa using this, h4, h5, hu⟩
def RG (w : World) (cs : List Value) (x : Fc) : Prop := ∃ v, cs = [.string x.p, v] ∧ x.p.size ≤ 140737488351232 ∧ Vals w v x.a
theorem RG.stays : Stays RG := fun _ _ _ _ hf ⟨v, h1, h2, h3⟩ => ⟨v, h1, h2, h3.fut RV.stays hf⟩
abbrev FacsG : World → Value → List Fc → Prop := SlRep 2 9223372036854775807 RG
theorem Facs.g {w : World} {v : Value} {fs : List Fc} (h : Facs w v fs) : FacsG w v fs :=
  (SlRep.imp h fun cs x ⟨v, h1, h2, h3⟩ => (⟨v, h1, h2, ValsA.vals h3⟩ : RG w cs x)).more (by omega)
theorem FacsG.at_ {w : World} {A : Option Addr} {n cap : Nat} {fs : List Fc} (h : FacsG w (.slice A n cap) fs) {k : Nat} (hk : k < fs.length) :
    ∃ b off A' cap', A = some ⟨b, off, none⟩ ∧ (fs[k]).p.size ≤ 140737488351232 ∧ w.cell? ⟨b, off + k * 2, none⟩ = some (.string (fs[k]).p) ∧ w.cell? ⟨b, off + k * 2 + 1, none⟩ = some (.slice A' (fs[k]).a.length cap') ∧ (fs[k]).a.length ≤ cap' ∧ cap' ≤ 9223372036854775807 ∧ Vals w (.slice A' (fs[k]).a.length cap') (fs[k]).a := by
  obtain ⟨A1, cap1, hv, _, _, h3⟩ := h
  obtain ⟨b, off, cs, hA, hl, hc, u, hr, hp, hu⟩ := h3 k _ (List.getElem?_eq_getElem hk)
  injection hv with hv _ _
  subst hr
  obtain ⟨A', cap', rfl, h4, h5⟩ := SlRep.form hu
  exact ⟨b, off, A', cap', hv.trans hA, hp, hc 0 _ rfl, hc 1 _ rfl, h4, h5, hu⟩
theorem FacsG.size {w : World} {v : Value} {fs : List Fc} (h : FacsG w v fs) : ∀ f ∈ fs, f.p.size ≤ 140737488351232 := by
  obtain ⟨A, cap, _, _, _, h3⟩ := h
  intro f hf
  obtain ⟨i, hi⟩ := List.getElem?_of_mem hf
  obtain ⟨_, _, _, _, _, _, _, _, hp, _⟩ := h3 i f hi
  exact hp

/-! ### Lists of the call's own, whose elements lie in memory of the call's own -/
section
variable {α : Type} {sz B M : Nat} {e ei : TypeId} {R R' : World → List Value → α → Prop} {w w' : World} {v u : Value} {xs ys : List α}
theorem OwnL.typed (h : OwnL sz B e R w v xs) : ∀ k, v.ownBlock = some k → ∃ arr, w.heap[k]? = some (.cells arr e (0, 0)) := by
  intro k hk
  obtain ⟨css, h1, h2, h3, h4⟩ := h
  rcases h4 with ⟨rfl, _⟩ | ⟨g, cap, cur, rfl, a2, a3, _⟩
  · cases hk
  · simp only [Value.ownBlock, Option.some.injEq] at hk
    subst hk
    exact ⟨cur, a3⟩
theorem OwnL.imp (h : OwnL sz B e R w v xs) (hR : ∀ cs x, R w cs x → R' w cs x) : OwnL sz B e R' w v xs := by
  obtain ⟨css, h1, h2, h3⟩ := h
  exact ⟨css, h1, fun i cs x hi hx => ⟨(h2 i cs x hi hx).1, hR _ _ (h2 i cs x hi hx).2⟩, h3⟩
theorem OwnL.base {B' : Nat} (h : OwnL sz B e R w v xs) (hB : B' ≤ B) : OwnL sz B' e R w v xs := by
  obtain ⟨css, h1, h2, h3, h4⟩ := h
  refine ⟨css, h1, h2, h3, ?_⟩
  rcases h4 with h4 | ⟨g, cap, cur, a1, a2, a3⟩
  · exact .inl h4
  · exact .inr ⟨g, cap, cur, a1, Nat.le_trans hB a2, a3⟩
/-- What a write into a row of another type does not turn. -/
def Keeps (e : TypeId) (R : World → List Value → α → Prop) : Prop :=
  ∀ (w w' : World) (row : Option Nat) (cs : List Value) (x : α), R w cs x → w.grownBy w' row → (∀ k, row = some k → ∃ arr, w.heap[k]? = some (.cells arr e (0, 0))) → R w' cs x
theorem OwnL.kept {row : Option Nat} (h : OwnL sz B ei R w v xs) (hR : ∀ cs x, R w cs x → R w' cs x) (hg : w.grownBy w' row) (ht : ∀ k, row = some k → ∃ arr, w.heap[k]? = some (.cells arr e (0, 0))) (hne : ei ≠ e) : OwnL sz B ei R w' v xs := by
  have hty := h.typed
  obtain ⟨css, h1, h2, h3⟩ := h
  refine ⟨css, h1, fun i cs x hi hx => ⟨(h2 i cs x hi hx).1, hR _ _ (h2 i cs x hi hx).2⟩, h3.kept hg ?_⟩
  cases hv : v.ownBlock with
  | none => exact .inl rfl
  | some k =>
    right
    intro hr
    obtain ⟨arr, h5⟩ := hty k hv
    obtain ⟨arr', h6⟩ := ht k hr.symm
    rw [h5] at h6
    injection h6 with h6
    injection h6 with _ h7
    exact hne h7
/-- APPEND, elements that Keep. -/
theorem wpList_append_L {P : Program} {ops : Array Oper} {rest : List Oper} {o : Oper} {a : Act} {Q : Exit → Act → World → Prop} (hgd : Region.wanted o (yielded ops a.tmps) = true) (s x : Operand) (t : TypeId)
    (ho : o.op = .call { callee := .builtin .append, args := #[s, x], argTypes := #[t, t] }) (ht : P.underlying t = some (.slice e)) (z : Value) (bytes : Nat)
    (hinfo : (P.info? e).map (fun i => (i.zero, i.size, i.bytes)) = some (some z, sz, bytes)) (hzs : z.cells.size = sz) (hsz : 0 < sz)
    (hR1 : ∀ w cs x, R w cs x → ∀ u ∈ cs, u.oneCell' = true) (hRk : Keeps e R)
    (hs : a.eval s = v) (hx : a.eval x = u) (hown : OwnL sz B e R w v xs) (hu : SlRep sz M R w u ys) (h63 : xs.length + ys.length ≤ maxLen) (hbytes : (xs.length + ys.length) * bytes ≤ 140737488355328) (hbase : B ≤ w.heap.size)
    (h : ∀ v' w', OwnL sz B e R w' v' (xs ++ ys) → w.grownBy w' v.ownBlock → wpList P ops Q rest (a.put o.dst v') w') : wpList P ops Q (o :: rest) a w := by
  obtain ⟨i, hi, hz, hs', hb⟩ := info_parts hinfo
  obtain ⟨v', w', hr, h2, h3⟩ := run_append_list t o.type i z bytes ht hi hz hs' hb hzs hsz hR1 (fun w' cs x hr hg => hRk w w' _ cs x hr hg hown.typed) hown hu h63 hbytes hbase
  refine wpList_step fun K hK => ?_
  rw [if_pos hgd]
  unfold Oper.wp
  have hrun : (execOp a.eval o).run P w = .ok (.value v') w' := by
    unfold execOp
    simp only [ho, resolve, invoke, builtin, Sem.run_bind, Sem.run_pure, Result.andThen_ok, List.map_toArray, List.map_cons, List.map_nil, hs, hx, hr]
  rw [hrun]
  exact hK _ _ (h v' w' h2 h3)
end

/-- Tuples, facts in memory of the call's own: B: from this block on. -/
def RTo (B : Nat) (ev : TypeId) (w : World) (cs : List Value) (xs : List V) : Prop := ∃ v, cs = [v] ∧ OwnV B ev w v xs
def RGo (B : Nat) (ev : TypeId) (w : World) (cs : List Value) (x : Fc) : Prop := ∃ v, cs = [.string x.p, v] ∧ x.p.size ≤ 140737488351232 ∧ OwnV B ev w v x.a
section
variable {B M : Nat} {e ev : TypeId} {w w' : World} {v u : Value}
theorem RTo.stays : Stays (RTo B ev) := fun _ _ _ _ hf ⟨v, h1, h2⟩ => ⟨v, h1, h2.fut RV.stays hf⟩
theorem RGo.stays : Stays (RGo B ev) := fun _ _ _ _ hf ⟨v, h1, h2, h3⟩ => ⟨v, h1, h2, h3.fut RV.stays hf⟩
theorem RTo.keeps (hne : ev ≠ e) : Keeps e (RTo B ev) := fun w w' row cs x ⟨v, h1, h2⟩ hg ht => ⟨v, h1, h2.kept (fun _ _ h => h) hg ht hne⟩
theorem RGo.keeps (hne : ev ≠ e) : Keeps e (RGo B ev) := fun w w' row cs x ⟨v, h1, h2, h3⟩ hg ht => ⟨v, h1, h2, h3.kept (fun _ _ h => h) hg ht hne⟩
theorem slice_one {A : Option Addr} {n c : Nat} : (Value.slice A n c).oneCell' = true := rfl
theorem RTo.one : ∀ (w : World) cs x, RTo B ev w cs x → ∀ u ∈ cs, u.oneCell' = true := fun w cs x ⟨v, h1, h2⟩ u hu => by
  obtain ⟨A, cap, rfl, _⟩ := h2.vals.form
  subst h1
  simp only [List.mem_singleton] at hu
  subst hu; rfl
theorem RGo.one : ∀ (w : World) cs x, RGo B ev w cs x → ∀ u ∈ cs, u.oneCell' = true := fun w cs x ⟨v, h1, _, h2⟩ u hu => by
  obtain ⟨A, cap, rfl, _⟩ := h2.vals.form
  subst h1
  simp only [List.mem_cons, List.not_mem_nil, or_false] at hu
  rcases hu with rfl | rfl <;> rfl
theorem OwnT.tups {ts : List (List V)} (h : OwnL 1 B e (RTo B ev) w v ts) : Tups w v ts :=
  (h.rep.imp fun cs x ⟨v, h1, h2⟩ => (⟨v, h1, h2.vals⟩ : RT w cs x)).more (by unfold maxLen; omega)
theorem OwnG.facs {fs : List Fc} (h : OwnL 2 B e (RGo B ev) w v fs) : FacsG w v fs :=
  (h.rep.imp fun cs x ⟨v, h1, h2, h3⟩ => (⟨v, h1, h2, h3.vals⟩ : RG w cs x)).more (by unfold maxLen; omega)
/-- What was there is told of as it was, whatever is written into rows of the call's own. -/
theorem const_keeps {α : Type} {R : World → List Value → α → Prop} (w0 : World) : Keeps e (fun _ => R w0) := fun _ _ _ _ _ h _ _ => h
theorem RT.one : ∀ (w : World) cs x, RT w cs x → ∀ u ∈ cs, u.oneCell' = true := fun w cs x ⟨v, h1, h2⟩ u hu => by
  obtain ⟨A, cap, rfl, _⟩ := h2.form
  subst h1
  simp only [List.mem_singleton] at hu
  subst hu; rfl
theorem RG.one : ∀ (w : World) cs x, RG w cs x → ∀ u ∈ cs, u.oneCell' = true := fun w cs x ⟨v, h1, _, h2⟩ u hu => by
  obtain ⟨A, cap, rfl, _⟩ := h2.form
  subst h1
  simp only [List.mem_cons, List.not_mem_nil, or_false] at hu
  rcases hu with rfl | rfl <;> rfl
end

def partsT : List (List V) → Nat
  | [] => 0
  | t :: r => 1 + t.length + partsT r
theorem partsT_take (ts : List (List V)) (k : Nat) (hk : k < ts.length) : partsT (ts.take (k + 1)) = partsT (ts.take k) + (1 + (ts[k]).length) := by
  induction ts generalizing k with
  | nil => simp at hk
  | cons f r ih =>
    cases k with
    | zero => simp [partsT]
    | succ k => simp only [List.take_succ_cons, partsT, List.getElem_cons_succ]; rw [ih k (by simpa using hk)]; omega
theorem partsT_le (ts : List (List V)) (k : Nat) : partsT (ts.take k) ≤ partsT ts := by
  induction ts generalizing k with
  | nil => simp
  | cons f r ih =>
    cases k with
    | zero => simp [partsT]
    | succ k => simp only [List.take_succ_cons, partsT]; have := ih k; omega
theorem partsT_len (ts : List (List V)) : ts.length ≤ partsT ts := by
  induction ts with
  | nil => simp
  | cons f r ih => simp only [List.length_cons, partsT]; omega
theorem partsT_mem {ts : List (List V)} {t : List V} (h : t ∈ ts) : t.length ≤ partsT ts := by
  induction ts with
  | nil => simp at h
  | cons f r ih =>
    simp only [partsT]
    rcases List.mem_cons.1 h with rfl | h
    · omega
    · have := ih h; omega
end Go.Proofs.Ytcekphjcmippoaa
/- append, with where the new list lies: several lists of the call's own side by side. Generic; no program. -/
namespace Go.Proofs.Ytcekphjcmippoaa
open Go.RowKit
set_option linter.unusedSimpArgs false
set_option linter.unusedVariables false

section
variable {α : Type} {sz B M : Nat} {e : TypeId} {R : World → List Value → α → Prop} {w w' : World} {v u : Value} {xs ys : List α}
/-- APPEND: the list grows by what the second one holds. -/
theorem run_append_list_at {P : Program} (t ty : TypeId) (i : TypeInfo) (z : Value) (bytes : Nat) (ht : P.underlying t = some (.slice e)) (hi : P.info? e = some i) (hz : i.zero = some z) (hsize : i.size = sz) (hby : i.bytes = bytes) (hzs : z.cells.size = sz) (hsz : 0 < sz)
    (hR1 : ∀ w cs x, R w cs x → ∀ u ∈ cs, u.oneCell' = true) (hRk : ∀ w' cs (x : α), R w cs x → w.grownBy w' v.ownBlock → R w' cs x)
    (h : OwnL sz B e R w v xs) (hu : SlRep sz M R w u ys) (h63 : xs.length + ys.length ≤ maxLen) (hbytes : (xs.length + ys.length) * bytes ≤ 140737488355328) (hbase : B ≤ w.heap.size) :
    ∃ v' w', (Builtin.append_ #[t, t] ty #[v, u]).run P w = .ok v' w' ∧ OwnL sz B e R w' v' (xs ++ ys) ∧ w.grownBy w' v.ownBlock ∧ (v'.ownBlock = v.ownBlock ∨ v'.ownBlock = some w.heap.size) := by
  have h0 := h
  obtain ⟨css, h1, h2, h3⟩ := h
  obtain ⟨A, cap, rfl, hl, hm, hx⟩ := hu
  have hgrow : ∀ w', w.grownBy w' v.ownBlock → ∀ (i : Nat) (cs : List Value) (x : α), css[i]? = some cs → xs[i]? = some x → cs.length = sz ∧ R w' cs x := fun w' hg i cs x hi hx => ⟨(h2 i cs x hi hx).1, hRk _ _ _ (h2 i cs x hi hx).2 hg⟩
  cases A with
  | none =>
    have hy : ys = [] := by
      cases ys with
      | nil => rfl
      | cons y r => obtain ⟨_, _, _, hA, _⟩ := hx 0 y rfl; cases hA
    subst hy
    obtain ⟨A', cap', hv, hl', _⟩ := h0.rep.form
    subst hv
    exact ⟨_, w, run_append_none t ty i ht hi A' _ cap' cap hl' w, by rw [List.append_nil]; exact h0, World.grownBy.refl w _, .inl rfl⟩
  | some a =>
    obtain ⟨news, hnl, hnews⟩ := exists_list (p := fun k (cs : List Value) => ∃ y, ys[k]? = some y ∧ cs.length = sz ∧ R w cs y ∧ ∀ j c, cs[j]? = some c → w.cell? (a.add (k * sz + j)) = some c) ys.length fun k hk => by
      obtain ⟨b, off, cs, hA, b1, b2, b3⟩ := hx k _ (List.getElem?_eq_getElem hk)
      injection hA with hA
      subst hA
      refine ⟨cs, _, List.getElem?_eq_getElem hk, b1, b3, fun j c hj => ?_⟩
      rw [← b2 j c hj]
      congr 1
      unfold Addr.add
      by_cases h' : k * sz + j = 0 <;> first | (simp [h']; done) | (simp [h']; omega)
    have hs : ∀ (i : Nat) (cs : List Value), news[i]? = some cs → cs.length = sz := fun i cs hi => by obtain ⟨y, _, b1, _⟩ := hnews i cs hi; exact b1
    have hcells : ∀ j u, news.flatten[j]? = some u → w.cell? (a.add j) = some u := fun j u hj => by
      have hjl : j < news.length * sz := by
        have := (List.getElem?_eq_some_iff.1 hj).1
        rwa [flatten_len hs] at this
      have hk : j / sz < news.length := Nat.div_lt_of_lt_mul (by rw [Nat.mul_comm]; exact hjl)
      obtain ⟨y, _, b1, _, b2⟩ := hnews (j / sz) _ (List.getElem?_eq_getElem hk)
      have hr : j % sz < (news[j / sz]).length := by rw [b1]; exact Nat.mod_lt _ hsz
      have e1 := flatten_at hs (j / sz) (j % sz) _ _ (List.getElem?_eq_getElem hk) (List.getElem?_eq_getElem hr)
      have e2 := b2 (j % sz) _ (List.getElem?_eq_getElem hr)
      rw [show j / sz * sz + j % sz = j by rw [Nat.mul_comm]; exact Nat.div_add_mod j sz] at e1 e2
      rw [hj] at e1
      rw [e2, ← e1]
    have hone : ∀ u ∈ news.flatten, u.oneCell' = true := fun u hu => by
      obtain ⟨cs, hc, hu⟩ := List.mem_flatten.1 hu
      obtain ⟨k, hk⟩ := List.getElem?_of_mem hc
      obtain ⟨y, _, _, b3, _⟩ := hnews k cs hk
      exact hR1 _ _ _ b3 u hu
    obtain ⟨v', w', r1, r2, r3, _, r5⟩ := run_append_own_at (P := P) w B t ty e i z sz bytes ht hi hz hsize hby hzs hsz v xs.length css.flatten h3 a ys.length cap news.flatten (by rw [flatten_len hs, hnl]) hcells hone h63 hbytes hbase
    refine ⟨v', w', r1, ⟨css ++ news, by simp [h1, hnl], fun k cs x hk hx' => ?_, by rw [List.flatten_append, List.length_append]; exact r2⟩, r3, r5⟩
    rcases Nat.lt_or_ge k css.length with h' | h'
    · rw [List.getElem?_append_left h'] at hk
      rw [List.getElem?_append_left (by omega)] at hx'
      exact hgrow w' r3 k cs x hk hx'
    · rw [List.getElem?_append_right h'] at hk
      rw [List.getElem?_append_right (by omega)] at hx'
      obtain ⟨y, e1, b1, b3, _⟩ := hnews _ _ hk
      rw [h1, hx'] at e1
      obtain rfl := Option.some.inj e1
      exact ⟨b1, hRk _ _ _ b3 r3⟩
/-- Lists of the call's own that lie apart. -/
def Apart (v u : Value) : Prop := ∀ k, v.ownBlock = some k → u.ownBlock ≠ some k
theorem Apart.symm (h : Apart v u) : Apart u v := fun k h1 h2 => h k h2 h1
theorem Apart.nil : Apart v (.slice none 0 0) := fun k _ h => by cases h
theorem OwnL.apart {row : Option Nat} (h : OwnL sz B e R w v xs) (hR : ∀ cs x, R w cs x → R w' cs x) (hg : w.grownBy w' row) (hne : ∀ k, row = some k → v.ownBlock ≠ some k) : OwnL sz B e R w' v xs := by
  obtain ⟨css, h1, h2, h3⟩ := h
  refine ⟨css, h1, fun i cs x hi hx => ⟨(h2 i cs x hi hx).1, hR _ _ (h2 i cs x hi hx).2⟩, h3.kept hg ?_⟩
  cases hv : v.ownBlock with
  | none => exact .inl rfl
  | some k => exact .inr fun hr => hne k hr.symm hv
theorem Apart.grow {v' : Value} {n : Nat} (h : Apart v u) (hat : v'.ownBlock = v.ownBlock ∨ v'.ownBlock = some n) (hu : ∀ k, u.ownBlock = some k → k < n) : Apart v' u := fun k h1 h2 => by
  rcases hat with h3 | h3
  · exact h k (h3 ▸ h1) h2
  · rw [h3] at h1
    injection h1 with h1
    have := hu k h2
    omega
theorem wpList_append_at {P : Program} {ops : Array Oper} {rest : List Oper} {o : Oper} {a : Act} {Q : Exit → Act → World → Prop} (hgd : Region.wanted o (yielded ops a.tmps) = true) (s x : Operand) (t : TypeId)
    (ho : o.op = .call { callee := .builtin .append, args := #[s, x], argTypes := #[t, t] }) (ht : P.underlying t = some (.slice e)) (z : Value) (bytes : Nat)
    (hinfo : (P.info? e).map (fun i => (i.zero, i.size, i.bytes)) = some (some z, sz, bytes)) (hzs : z.cells.size = sz) (hsz : 0 < sz)
    (hR1 : ∀ w cs x, R w cs x → ∀ u ∈ cs, u.oneCell' = true) (hRk : Keeps e R)
    (hs : a.eval s = v) (hx : a.eval x = u) (hown : OwnL sz B e R w v xs) (hu : SlRep sz M R w u ys) (h63 : xs.length + ys.length ≤ maxLen) (hbytes : (xs.length + ys.length) * bytes ≤ 140737488355328) (hbase : B ≤ w.heap.size)
    (h : ∀ v' w', OwnL sz B e R w' v' (xs ++ ys) → w.grownBy w' v.ownBlock → (v'.ownBlock = v.ownBlock ∨ v'.ownBlock = some w.heap.size) → wpList P ops Q rest (a.put o.dst v') w') : wpList P ops Q (o :: rest) a w := by
  obtain ⟨i, hi, hz, hs', hb⟩ := info_parts hinfo
  obtain ⟨v', w', hr, h2, h3, h4⟩ := run_append_list_at t o.type i z bytes ht hi hz hs' hb hzs hsz hR1 (fun w' cs x hr hg => hRk w w' _ cs x hr hg hown.typed) hown hu h63 hbytes hbase
  refine wpList_step fun K hK => ?_
  rw [if_pos hgd]
  unfold Oper.wp
  have hrun : (execOp a.eval o).run P w = .ok (.value v') w' := by
    unfold execOp
    simp only [ho, resolve, invoke, builtin, Sem.run_bind, Sem.run_pure, Result.andThen_ok, List.map_toArray, List.map_cons, List.map_nil, hs, hx, hr]
  rw [hrun]
  exact hK _ _ (h v' w' h2 h3 h4)
end
end Go.Proofs.Ytcekphjcmippoaa
/- A row laid into a slice or a struct that is just built. No program. -/
namespace Go.Proofs.Ytcekphjcmippoaa
open Go.RowKit Go.WideMaps
set_option linter.unusedSimpArgs false
set_option linter.unusedVariables false

theorem fold_put (o : Nat) : ∀ (l : List Value) (k : Nat) (arr : Array Value), ∃ arr' : Array Value, (l.zipIdx k).foldl (fun cs p => cs.setIfInBounds (o + p.2) p.1) arr = arr' ∧ arr'.size = arr.size ∧
    ∀ j, arr'[j]? = if o + k ≤ j ∧ j < o + k + l.length ∧ j < arr.size then l[j - (o + k)]? else arr[j]?
  | [], k, arr => ⟨arr, rfl, rfl, fun j => by rw [if_neg (by simp; omega)]⟩
  | v :: l, k, arr => by
    obtain ⟨arr', h1, h2, h3⟩ := fold_put o l (k + 1) (arr.setIfInBounds (o + k) v)
    refine ⟨arr', by rw [List.zipIdx_cons, List.foldl_cons]; exact h1, by rw [h2]; simp, fun j => ?_⟩
    rw [h3]
    simp only [Array.size_setIfInBounds, List.length_cons]
    by_cases h4 : j = o + k
    · subst h4
      rw [if_neg (by omega)]
      by_cases h5 : o + k < arr.size
      · rw [if_pos (by omega)]; simp [h5]
      · rw [if_neg (by omega)]; simp [h5]
    · rw [Array.getElem?_setIfInBounds_ne (Ne.symm h4)]
      by_cases h5 : o + (k + 1) ≤ j ∧ j < o + (k + 1) + l.length ∧ j < arr.size
      · rw [if_pos h5, if_pos (by omega), show j - (o + k) = (j - (o + (k + 1))) + 1 by omega, List.getElem?_cons_succ]
      · rw [if_neg h5, if_neg (by omega)]
/-- One part, at offset off, of size sz. -/
theorem fill_one {place : Nat → Option (Nat × Nat)} {i off sz : Nat} {v : Value} {zero : Array Value} (hp : place i = some (off, sz)) (hs : v.cells.size = sz) (hz : off + sz ≤ zero.size) (rest : List (Nat × Value)) :
    ∃ arr' : Array Value, Instr.fill place zero ((i, v) :: rest) = Instr.fill place arr' rest ∧ arr'.size = zero.size ∧ ∀ j, arr'[j]? = if off ≤ j ∧ j < off + sz then v.cells[j - off]? else zero[j]? := by
  obtain ⟨arr', h1, h2, h3⟩ := fold_put off v.cells.toList 0 zero
  refine ⟨arr', ?_, h2, fun j => ?_⟩
  · have h4 : v.cells.zipIdx.foldl (fun cs (c, j) => cs.setIfInBounds (off + j) c) zero = arr' := by
      rw [← h1, ← Array.foldl_toList, Array.toList_zipIdx]
    conv => lhs; unfold Instr.fill
    simp only [hp]
    rw [if_neg (by simp [hs]; omega), h4]
  · rw [h3]
    simp only [Nat.add_zero, Array.length_toList, hs, Array.getElem?_toList]
    by_cases h5 : off ≤ j ∧ j < off + sz
    · rw [if_pos h5, if_pos (by omega)]
    · rw [if_neg h5, if_neg (by omega)]
section
variable {P : Program} {t k e : TypeId} {w : World} {o : Oper} {a : Act} {x : Rw}
/-- A list of one row. -/
theorem exec_one_R (T : RowTy P k e) (hz : ∃ z, (P.info? k).bind (·.zero) = some z ∧ z.cells.size = 24) (ht : P.underlying t = some (.slice k)) (y : Operand) (ho : o.op = .buildSlice t 1 #[(0, y)]) (hy : a.eval y = Rw.val x) (hx : Rw.ok x) :
    (execOp a.eval o).run P w = .ok (.value (.slice (some ⟨w.heap.size, 0, none⟩) 1 1)) (w.alloc (.cells (Rw.cells x).toArray k)) := by
  have hi := T.hi
  cases hq : P.info? k with
  | none => simp [hq] at hi
  | some ie =>
    have hs : ie.size = 24 := by simpa [hq] using hi
    obtain ⟨z, hz1, hz2⟩ := hz
    rw [hq] at hz1
    obtain ⟨arr', h1, h2, h3⟩ := fill_one (place := fun i => some (i * 24, 24)) (i := 0) (off := 0) (sz := 24) (v := Rw.val x) (zero := ((Array.range (1 * 24)).map (z.cells[· % z.cells.size]!))) rfl (by simp [Rw.val_cells, Rw.cells_len hx]) (by simp) []
    have e1 : arr' = (Rw.cells x).toArray := by
      refine Array.ext_getElem? fun j => ?_
      rw [h3]
      by_cases hj : j < 24
      · rw [if_pos (by omega)]; simp [Rw.val_cells]
      · rw [if_neg (by omega)]
        have := Rw.cells_len hx
        rw [Array.getElem?_eq_none (by simp; omega), Array.getElem?_eq_none (by simp; omega)]
    have hf : Instr.fill (fun i => some (i * 24, 24)) ((Array.range (1 * 24)).map (z.cells[· % z.cells.size]!)) [(0, Rw.val x)] = some (Rw.cells x).toArray := by rw [h1, e1]; rfl
    have hrun := run_buildSlice (P := P) w t k 1 #[(0, Rw.val x)] (Rw.cells x).toArray ie z ht hq (by simpa using hz1) (by rw [hs]; omega) (by rw [hs]; omega) (by rw [hs]; exact hf)
    unfold execOp
    simp only [ho, List.map_toArray, List.map_cons, List.map_nil, hy, hrun, Sem.run_bind, Sem.run_pure, Result.andThen_ok]
end
end Go.Proofs.Ytcekphjcmippoaa
/- places.put; Add. -/
namespace Go.Proofs.Ytcekphjcmippoaa
open Go.RowKit Go.WideMaps
set_option linter.unusedSimpArgs false
set_option linter.unusedVariables false

/-- A list of one row, just built. -/
theorem rowOne (w : World) (t : TypeId) {x : Rw} (hx : Rw.ok x) : SlRep 24 1 RR (w.alloc (.cells (Rw.cells x).toArray t)) (.slice (some ⟨w.heap.size, 0, none⟩) 1 1) [x] :=
  ⟨_, _, rfl, Nat.le_refl _, Nat.le_refl _, fun i y hy => by
    have hi : i = 0 := by
      have := (List.getElem?_eq_some_iff.1 hy).1
      simp at this; omega
    subst hi
    simp at hy
    subst hy
    refine ⟨_, 0, Rw.cells x, rfl, Rw.cells_len hx, fun j c hj => ?_, rfl, hx⟩
    have := (RowAt.new w t hx).2 j c hj
    rwa [Nat.zero_mul, show 0 + (0 + j) = 0 + j by omega]⟩
/-- APPEND of rows. -/
theorem run_append_R {P : Program} {t ty e : TypeId} {B : Nat} {w : World} {v u : Value} {xs ys : List Rw} {M : Nat} (ht : P.underlying t = some (.slice e))
    (hinfo : (P.info? e).map (fun i => (i.zero, i.size, i.bytes)) = some (some (Rw.val zeroRow), 24, 96))
    (h : OwnL 24 B e RR w v xs) (hu : SlRep 24 M RR w u ys) (hlen : xs.length + ys.length ≤ 1407374883512) (hbase : B ≤ w.heap.size) :
    ∃ v' w', (Builtin.append_ #[t, t] ty #[v, u]).run P w = .ok v' w' ∧ OwnL 24 B e RR w' v' (xs ++ ys) ∧ w.grownBy w' v.ownBlock ∧ (v'.ownBlock = v.ownBlock ∨ v'.ownBlock = some w.heap.size) := by
  obtain ⟨i, hi, hz, hs, hb⟩ := info_parts hinfo
  exact run_append_list_at t ty i _ 96 ht hi hz hs hb rfl (by omega) RR.one (fun _ _ _ h _ => h) h hu (by unfold maxLen; omega) (by omega) hbase
theorem wpList_append_R {P : Program} {ops : Array Oper} {rest : List Oper} {o : Oper} {a : Act} {Q : Exit → Act → World → Prop} {t e : TypeId} {B : Nat} {w : World} {v u : Value} {xs ys : List Rw} {M : Nat} (hgd : Region.wanted o (yielded ops a.tmps) = true) (s x : Operand)
    (ho : o.op = .call { callee := .builtin .append, args := #[s, x], argTypes := #[t, t] }) (ht : P.underlying t = some (.slice e))
    (hinfo : (P.info? e).map (fun i => (i.zero, i.size, i.bytes)) = some (some (Rw.val zeroRow), 24, 96))
    (hs : a.eval s = v) (hx : a.eval x = u) (hown : OwnL 24 B e RR w v xs) (hu : SlRep 24 M RR w u ys) (hlen : xs.length + ys.length ≤ 1407374883512) (hbase : B ≤ w.heap.size)
    (h : ∀ v' w', OwnL 24 B e RR w' v' (xs ++ ys) → w.grownBy w' v.ownBlock → (v'.ownBlock = v.ownBlock ∨ v'.ownBlock = some w.heap.size) → wpList P ops Q rest (a.put o.dst v') w') : wpList P ops Q (o :: rest) a w := by
  obtain ⟨v', w', hr, h2, h3, h4⟩ := run_append_R (ty := o.type) ht hinfo hown hu hlen hbase
  refine wpList_of_run hgd (v := v') (w' := w') ?_ (h v' w' h2 h3 h4)
  unfold execOp
  simp only [ho, resolve, invoke, builtin, Sem.run_bind, Sem.run_pure, Result.andThen_ok, List.map_toArray, List.map_cons, List.map_nil, hs, hx, hr]
theorem wpList_push_R {P : Program} {k e t ev : TypeId} {ops : Array Oper} {rest : List Oper} {o : Oper} {a : Act} {Q : Exit → Act → World → Prop} {w : World} {b : Nat} {f : Rw → Option Int} {x : Rw} {v : Int} (T : RowTy P k e) (hgd : Region.wanted o (yielded ops a.tmps) = true) (ht : P.underlying t = some (.map k ev)) (m y z : Operand)
    (ho : o.op = .mapUpdate t m y z) (hm : a.eval m = .map (some b)) (hy : a.eval y = Rw.val x) (hz : a.eval z = .int .i64 v) (h : MapR w b f) (hx : Rw.ok x) (hn : f x = none)
    (hk : ∀ w', MapR w' b (fun y => if y = x then some v else f y) → w.grownBy w' (some b) → wpList P ops Q rest (a.put o.dst undef) w') : wpList P ops Q (o :: rest) a w := by
  obtain ⟨w', hr, h2, h3⟩ := h.push T.A T.he T.hsz ht hx hn v
  refine wpList_of_skip hgd (w' := w') ?_ (hk w' h2 h3)
  unfold execOp
  simp only [ho, hm, hy, hz, hr, Sem.run_bind, Sem.run_pure, Result.andThen_ok]

theorem OwnL.onlyR {B : Nat} {e : TypeId} {w w' : World} {v : Value} {xs : List Rw} {S : Nat → Prop} (h : OwnL 24 B e RR w v xs) (hg : Only S w w') (hne : ∀ k, v.ownBlock = some k → ¬ S k) : OwnL 24 B e RR w' v xs :=
  h.only (fun _ _ h => h) hg hne
theorem zeroR : ∃ z, (Try.prog.info? 32).bind (·.zero) = some z ∧ z.cells.size = 24 := ⟨Rw.val zeroRow, by kernel_rfl, rfl⟩
theorem set_blk {w : World} {g i : Nat} {cs : Array Value} {t : TypeId} {fr : Nat × Nat} {v : Value} (h : w.heap[g]? = some (.cells cs t fr)) : (w.setCell ⟨g, i, none⟩ v).heap[g]? = some (.cells (cs.setIfInBounds i v) t fr) := by
  simp [World.setCell, Array.getElem?_modify, h]
theorem PlI.sep {B : Nat} {w : World} {pb mb : Nat} {lv : Value} {xs : List Rw} (h : PlI B w pb mb lv xs) : pb ≠ mb ∧ ∀ k, lv.ownBlock = some k → k ≠ pb ∧ k ≠ mb := by
  obtain ⟨es, c, hm, _⟩ := h.map
  refine ⟨fun e => ?_, fun k hk => ⟨fun e => ?_, fun e => ?_⟩⟩
  · subst e; have := h.blk; rw [hm] at this; cases this
  · subst e
    obtain ⟨arr, h1⟩ := h.list.typed _ hk
    have := h.blk
    rw [h1] at this
    injection this with h2
    injection h2 with _ h3
    revert h3
    decide
  · subst e
    obtain ⟨arr, h1⟩ := h.list.typed _ hk
    rw [hm] at h1; cases h1
set_option maxHeartbeats 1600000 in
set_option maxRecDepth 100000 in
theorem put_any {B : Nat} {w : World} {pb mb : Nat} {lv : Value} {xs : List Rw} (h : PlI B w pb mb lv xs) (hB : B ≤ w.heap.size) (x : Rw) (hx : Rw.ok x) (hl : xs.length < 1407374883512) :
    Calls Try.prog 31 #[.pointer (some ⟨pb, 0, none⟩), Rw.val x] w fun e w' => ∃ lv', e = .returned (.bool (!decide (x ∈ xs))) ∧ PlI B w' pb mb lv' (if x ∈ xs then xs else xs ++ [x]) ∧ Only (pfoot pb mb lv) w w' ∧ ∀ k, lv'.ownBlock = some k → pfoot pb mb lv k ∨ w.heap.size ≤ k := by
  have H := Lib.hid h
  have X := Lib.hid hx
  clear h hx
  unfold Rw.val
  go_enter Try.func31, Try.ntmps31
  go_wp2_with fail
  have hr := RowAt.new w 32 X.out
  have F1 := Fut.alloc w (.cells (Rw.cells x).toArray 32)
  obtain ⟨W1, hW⟩ : ∃ W1, w.alloc (.cells (Rw.cells x).toArray 32) = W1 := ⟨_, rfl⟩
  rw [hW] at hr F1 ⊢
  have hsz : W1.heap.size = w.heap.size + 1 := by rw [← hW]; simp
  clear hW
  have p1 := F1.cell (cell_at H.out.blk 1 _ rfl)
  refine wp_graph 11 [.d, .d, .d, .d, .d, .d, .d, .d, .d, .d, .d] (by kernel_rfl) (by kernel_rfl) (by kernel_rfl) ?_
  simp only [List.take_succ_cons, List.take_zero, List.drop_succ_cons, List.drop_zero, Exs]
  iterate 11 apply Exists.intro
  apply Run.valG (wanted_none rfl _)
  · intro w1 h1 hk
    have q1 := h1.cell p1; have hg := (Fut.drew _).trans h1
    have hcw := fun b o => Below.cell (p := ⟨b, o, none⟩) h1
    go_simp; rfl
  simp only [Act.put, List.setIfInBounds_toArray, List.set_cons_succ, List.set_cons_zero, List.nil_append, List.cons_append]
  apply Run.valG (wanted_none rfl _)
  · intro w1 h1 hk
    have q1 := h1.cell p1; have hg := (Fut.drew _).trans h1
    have hcw := fun b o => Below.cell (p := ⟨b, o, none⟩) h1
    go_simp; rfl
  simp only [Act.put, List.setIfInBounds_toArray, List.set_cons_succ, List.set_cons_zero, List.nil_append, List.cons_append]
  apply Run.valG (wanted_none rfl _)
  · intro w1 h1 hk
    have q1 := h1.cell p1; have hg := (Fut.drew _).trans h1
    have hcw := fun b o => Below.cell (p := ⟨b, o, none⟩) h1
    go_simp; rfl
  simp only [Act.put, List.setIfInBounds_toArray, List.set_cons_succ, List.set_cons_zero, List.nil_append, List.cons_append]
  apply Run.valG (wanted_none rfl _)
  · intro w1 h1 hk
    have q1 := h1.cell p1; have hg := (Fut.drew _).trans h1
    have hcw := fun b o => Below.cell (p := ⟨b, o, none⟩) h1
    go_simp; rfl
  simp only [Act.put, List.setIfInBounds_toArray, List.set_cons_succ, List.set_cons_zero, List.nil_append, List.cons_append]
  apply Run.valG (wanted_none rfl _)
  · intro w1 h1 hk
    have q1 := h1.cell p1; have hg := (Fut.drew _).trans h1
    have hcw := fun b o => Below.cell (p := ⟨b, o, none⟩) h1
    exact exec_load_R rowTy _ rfl rfl (hr.fut hg)
  simp only [Act.put, List.setIfInBounds_toArray, List.set_cons_succ, List.set_cons_zero, List.nil_append, List.cons_append]
  apply Run.valG (wanted_none rfl _)
  · intro w1 h1 hk
    have q1 := h1.cell p1; have hg := (Fut.drew _).trans h1
    have hcw := fun b o => Below.cell (p := ⟨b, o, none⟩) h1
    exact exec_lookup_R rowTy Try.underlying75 zeroI _ _ rfl rfl rfl (H.out.fut (F1.trans hg)).map X.out
  simp only [Act.put, List.setIfInBounds_toArray, List.set_cons_succ, List.set_cons_zero, List.nil_append, List.cons_append]
  apply Run.valG (wanted_none rfl _)
  · intro w1 h1 hk
    have q1 := h1.cell p1; have hg := (Fut.drew _).trans h1
    have hcw := fun b o => Below.cell (p := ⟨b, o, none⟩) h1
    go_simp; rfl
  simp only [Act.put, List.setIfInBounds_toArray, List.set_cons_succ, List.set_cons_zero, List.nil_append, List.cons_append]
  apply Run.valG (wanted_none rfl _)
  · intro w1 h1 hk
    have q1 := h1.cell p1; have hg := (Fut.drew _).trans h1
    have hcw := fun b o => Below.cell (p := ⟨b, o, none⟩) h1
    go_simp; rfl
  simp only [Act.put, List.setIfInBounds_toArray, List.set_cons_succ, List.set_cons_zero, List.nil_append, List.cons_append]
  apply Run.valG (wanted_none rfl _)
  · intro w1 h1 hk
    have q1 := h1.cell p1; have hg := (Fut.drew _).trans h1
    have hcw := fun b o => Below.cell (p := ⟨b, o, none⟩) h1
    go_simp; rfl
  simp only [Act.put, List.setIfInBounds_toArray, List.set_cons_succ, List.set_cons_zero, List.nil_append, List.cons_append]
  apply Run.valG (wanted_none rfl _)
  · intro w1 h1 hk
    have q1 := h1.cell p1; have hg := (Fut.drew _).trans h1
    have hcw := fun b o => Below.cell (p := ⟨b, o, none⟩) h1
    go_simp; rfl
  simp only [Act.put, List.setIfInBounds_toArray, List.set_cons_succ, List.set_cons_zero, List.nil_append, List.cons_append]
  apply Run.valG (wanted_none rfl _)
  · intro w1 h1 hk
    have q1 := h1.cell p1; have hg := (Fut.drew _).trans h1
    have hcw := fun b o => Below.cell (p := ⟨b, o, none⟩) h1
    go_simp; rfl
  simp only [Act.put, List.setIfInBounds_toArray, List.set_cons_succ, List.set_cons_zero, List.nil_append, List.cons_append]
  apply Run.done
  intro w2 h2 hk
  clear hk
  by_cases hin : x ∈ xs
  · have hs : (idx xs x).isSome = true := by rw [idx_isSome]; exact decide_eq_true hin
    rw [hs]
    go_wp2
    go_ret
    exact ⟨rfl, _, H.out.fut (F1.trans ((Fut.drew _).trans h2)), Only.fut (F1.trans ((Fut.drew _).trans h2)), fun k hk => .inl (.inr (.inr hk))⟩
  · have hs : (idx xs x).isSome = false := by rw [idx_isSome]; exact decide_eq_false hin
    have hnone : idx xs x = none := by simpa using hs
    obtain ⟨A, cap, rfl, hcl, hcm⟩ := H.out.form
    have F2 := F1.trans ((Fut.drew _).trans h2)
    have hr2 := hr.fut ((Fut.drew _).trans h2)
    have p0 := F2.cell (cell_at H.out.blk 0 _ rfl)
    have p1 := F2.cell (cell_at H.out.blk 1 _ rfl)
    rw [hs]
    go_wp2_with fail
    refine wp_graph 10 [.d, .d, .d, .d, .d, .d, .d, .d, .d, .d] (by kernel_rfl) (by kernel_rfl) (by kernel_rfl) ?_
    simp only [List.take_succ_cons, List.take_zero, List.drop_succ_cons, List.drop_zero, Exs]
    iterate 10 apply Exists.intro
    apply Run.valG (wanted_none rfl _)
    · intro w1 h1 hk
      have q0 := h1.cell p0; have q1 := h1.cell p1; have hg := (Fut.drew _).trans h1
      have hcw := fun b o => Below.cell (p := ⟨b, o, none⟩) h1
      go_simp; rfl
    simp only [Act.put, List.setIfInBounds_toArray, List.set_cons_succ, List.set_cons_zero, List.nil_append, List.cons_append]
    apply Run.valG (wanted_none rfl _)
    · intro w1 h1 hk
      have q0 := h1.cell p0; have q1 := h1.cell p1; have hg := (Fut.drew _).trans h1
      have hcw := fun b o => Below.cell (p := ⟨b, o, none⟩) h1
      go_simp; rfl
    simp only [Act.put, List.setIfInBounds_toArray, List.set_cons_succ, List.set_cons_zero, List.nil_append, List.cons_append]
    apply Run.valG (wanted_none rfl _)
    · intro w1 h1 hk
      have q0 := h1.cell p0; have q1 := h1.cell p1; have hg := (Fut.drew _).trans h1
      have hcw := fun b o => Below.cell (p := ⟨b, o, none⟩) h1
      go_simp; rfl
    simp only [Act.put, List.setIfInBounds_toArray, List.set_cons_succ, List.set_cons_zero, List.nil_append, List.cons_append]
    apply Run.valG (wanted_none rfl _)
    · intro w1 h1 hk
      have q0 := h1.cell p0; have q1 := h1.cell p1; have hg := (Fut.drew _).trans h1
      have hcw := fun b o => Below.cell (p := ⟨b, o, none⟩) h1
      go_simp; rfl
    simp only [Act.put, List.setIfInBounds_toArray, List.set_cons_succ, List.set_cons_zero, List.nil_append, List.cons_append]
    apply Run.valG (wanted_none rfl _)
    · intro w1 h1 hk
      have q0 := h1.cell p0; have q1 := h1.cell p1; have hg := (Fut.drew _).trans h1
      have hcw := fun b o => Below.cell (p := ⟨b, o, none⟩) h1
      exact exec_load_R rowTy _ rfl rfl (hr2.fut hg)
    simp only [Act.put, List.setIfInBounds_toArray, List.set_cons_succ, List.set_cons_zero, List.nil_append, List.cons_append]
    apply Run.valG (wanted_none rfl _)
    · intro w1 h1 hk
      have q0 := h1.cell p0; have q1 := h1.cell p1; have hg := (Fut.drew _).trans h1
      have hcw := fun b o => Below.cell (p := ⟨b, o, none⟩) h1
      go_simp; rfl
    simp only [Act.put, List.setIfInBounds_toArray, List.set_cons_succ, List.set_cons_zero, List.nil_append, List.cons_append]
    apply Run.valG (wanted_none rfl _)
    · intro w1 h1 hk
      have q0 := h1.cell p0; have q1 := h1.cell p1; have hg := (Fut.drew _).trans h1
      have hcw := fun b o => Below.cell (p := ⟨b, o, none⟩) h1
      go_simp; rfl
    simp only [Act.put, List.setIfInBounds_toArray, List.set_cons_succ, List.set_cons_zero, List.nil_append, List.cons_append]
    apply Run.valG (wanted_none rfl _)
    · intro w1 h1 hk
      have q0 := h1.cell p0; have q1 := h1.cell p1; have hg := (Fut.drew _).trans h1
      have hcw := fun b o => Below.cell (p := ⟨b, o, none⟩) h1
      go_simp; rfl
    simp only [Act.put, List.setIfInBounds_toArray, List.set_cons_succ, List.set_cons_zero, List.nil_append, List.cons_append]
    apply Run.valG (wanted_none rfl _)
    · intro w1 h1 hk
      have q0 := h1.cell p0; have q1 := h1.cell p1; have hg := (Fut.drew _).trans h1
      have hcw := fun b o => Below.cell (p := ⟨b, o, none⟩) h1
      go_simp; rfl
    simp only [Act.put, List.setIfInBounds_toArray, List.set_cons_succ, List.set_cons_zero, List.nil_append, List.cons_append]
    apply Run.valG (wanted_none rfl _)
    · intro w1 h1 hk
      have q0 := h1.cell p0; have q1 := h1.cell p1; have hg := (Fut.drew _).trans h1
      have hcw := fun b o => Below.cell (p := ⟨b, o, none⟩) h1
      go_simp; rfl
    simp only [Act.put, List.setIfInBounds_toArray, List.set_cons_succ, List.set_cons_zero, List.nil_append, List.cons_append]
    apply Run.done
    intro w3 h3 hk
    clear hk
    have F3 := F2.trans ((Fut.drew _).trans h3)
    have hr3 := hr2.fut ((Fut.drew _).trans h3)
    have H3 := Lib.hid (H.out.fut F3)
    have hX := X.out
    have hM := H3.out.map
    have hB3 : w.heap.size ≤ w3.heap.size := F3.size
    clear hr hr2
    go_wp2_with (first | (refine wpList_push_R rowTy (wanted_none rfl _) Try.underlying75 _ _ _ rfl rfl rfl rfl hM hX hnone ?_; intro w4 hM4 hG4))
    obtain ⟨hne, hlv⟩ := H.out.sep
    have hpb : pb < w.heap.size := H.out.lt pb (.inl rfl)
    have hmb : mb < w.heap.size := H.out.lt mb (.inr (.inl rfl))
    have hown : ∀ k, (Value.slice A xs.length cap).ownBlock = some k → k < w.heap.size := fun k hk => H.out.lt k (.inr (.inr hk))
    have O4 : Only (fun k => k = mb) w3 w4 := Only.grown hG4 (fun k hk => by cases hk; rfl)
    have hr4 := hr3.only O4 (by omega)
    have b4 := O4.keeps H3.out.blk hne
    have p4 := cell_at b4 0 _ rfl
    have L4 := Lib.hid (H3.out.list.onlyR O4 fun k hk => (hlv k hk).2)
    have HM4 := Lib.hid hM4
    clear hM4
    refine wp_graph0 7 [.d, .d, .d, .d, .d, .d, .r (fun v w => SlRep 24 1 RR w v [x])] (by kernel_rfl) (by kernel_rfl) (by kernel_rfl) (by decide) (by intro c v w a o ho h; obtain rfl := Option.some.inj ho; exact h) (by kernel_rfl) ?_
    simp only [List.take_succ_cons, List.take_zero, List.drop_succ_cons, List.drop_zero, Exs]
    iterate 6 apply Exists.intro
    apply Run.valG (wanted_none rfl _)
    · intro w1 h1 hk
      have q0 := h1.cell p4; have hg := (Fut.drew _).trans h1
      have hcw := fun b o => Below.cell (p := ⟨b, o, none⟩) h1
      go_simp; rfl
    simp only [Act.put, List.setIfInBounds_toArray, List.set_cons_succ, List.set_cons_zero, List.nil_append, List.cons_append]
    apply Run.valG (wanted_none rfl _)
    · intro w1 h1 hk
      have q0 := h1.cell p4; have hg := (Fut.drew _).trans h1
      have hcw := fun b o => Below.cell (p := ⟨b, o, none⟩) h1
      go_simp; rfl
    simp only [Act.put, List.setIfInBounds_toArray, List.set_cons_succ, List.set_cons_zero, List.nil_append, List.cons_append]
    apply Run.valG (wanted_none rfl _)
    · intro w1 h1 hk
      have q0 := h1.cell p4; have hg := (Fut.drew _).trans h1
      have hcw := fun b o => Below.cell (p := ⟨b, o, none⟩) h1
      go_simp; rfl
    simp only [Act.put, List.setIfInBounds_toArray, List.set_cons_succ, List.set_cons_zero, List.nil_append, List.cons_append]
    apply Run.valG (wanted_none rfl _)
    · intro w1 h1 hk
      have q0 := h1.cell p4; have hg := (Fut.drew _).trans h1
      have hcw := fun b o => Below.cell (p := ⟨b, o, none⟩) h1
      go_simp; rfl
    simp only [Act.put, List.setIfInBounds_toArray, List.set_cons_succ, List.set_cons_zero, List.nil_append, List.cons_append]
    apply Run.valG (wanted_none rfl _)
    · intro w1 h1 hk
      have q0 := h1.cell p4; have hg := (Fut.drew _).trans h1
      have hcw := fun b o => Below.cell (p := ⟨b, o, none⟩) h1
      go_simp; rfl
    simp only [Act.put, List.setIfInBounds_toArray, List.set_cons_succ, List.set_cons_zero, List.nil_append, List.cons_append]
    apply Run.valG (wanted_none rfl _)
    · intro w1 h1 hk
      have q0 := h1.cell p4; have hg := (Fut.drew _).trans h1
      have hcw := fun b o => Below.cell (p := ⟨b, o, none⟩) h1
      exact exec_load_R rowTy _ rfl rfl (hr4.fut hg)
    simp only [Act.put, List.setIfInBounds_toArray, List.set_cons_succ, List.set_cons_zero, List.nil_append, List.cons_append]
    apply Run.valR (wanted_none rfl _) (by intro v w w' hf hs; exact hs.fut RR.stays hf)
    · intro w1 h1 hk
      have q0 := h1.cell p4; have hg := (Fut.drew _).trans h1
      exact ⟨_, _, exec_one_R rowTy zeroR Try.underlying25 _ rfl rfl hX, Fut.alloc _ _, rowOne _ _ hX⟩
    intro v6
    simp only [Act.put, List.setIfInBounds_toArray, List.set_cons_succ, List.set_cons_zero, List.nil_append, List.cons_append]
    apply Run.done
    intro w5 h5 hk
    obtain ⟨f6, _⟩ := hk
    have h5' := (Fut.drew w4).trans h5
    have L5 := L4.out.fut RR.stays h5'
    have b5 := h5'.block b4
    have hB5 : w.heap.size ≤ w5.heap.size := Nat.le_trans hB3 (Nat.le_trans O4.size h5'.size)
    go_wp2_with (first | (refine wpList_append_R (wanted_none rfl _) _ _ rfl Try.underlying25 infoR rfl rfl L5 f6 (by simp; omega) (by omega) ?_; intro v7 w7 hO7 hG7 hB7; obtain ⟨A7, cap7, hv7, hc7, _⟩ := hO7.rep.form; have O7 : Only (fun k => (Value.slice A xs.length cap).ownBlock = some k) w5 w7 := Only.grown hG7 (fun k hk => hk); have b7 := O7.keeps b5 (fun h => (hlv pb h).1 rfl); have q7 := cell_at b7 0 _ rfl; have z7 := free_at b7 0; subst hv7))
    go_ret
    have el : (xs ++ [x]).length = xs.length + 1 := by simp
    rw [el] at hO7 hB7
    have hs5 : w3.heap.size ≤ w5.heap.size := Nat.le_trans O4.size h5'.size
    have hv7 : ∀ k, (Value.slice A7 (xs.length + 1) cap7).ownBlock = some k → (Value.slice A xs.length cap).ownBlock = some k ∨ w5.heap.size ≤ k := fun k hk => by
      rcases hB7 with h | h
      · exact .inl (h ▸ hk)
      · rw [h] at hk; cases hk; exact .inr (Nat.le_refl _)
    have OS : Only (fun k => k = pb) w7 (w7.setCell ⟨pb, 0, none⟩ (Value.slice A7 (xs.length + 1) cap7)) := Only.set _ _ rfl
    refine ⟨rfl, _, ⟨set_blk b7, ?_, ?_, H.out.base, ?_⟩, ?_, ?_⟩
    · refine hO7.onlyR OS fun k hk e => ?_
      subst e
      rcases hv7 _ hk with h | h
      · exact (hlv _ h).1 rfl
      · omega
    · rw [← idx_push hin]
      refine HM4.out.kept ?_
      rw [OS.block mb (by have := O7.size; omega) (fun e => hne e.symm), O7.block mb (by omega) (fun h => (hlv mb h).2 rfl), Below.block h5' mb (by have := O4.size; omega)]
    · exact List.nodup_append.2 ⟨H.out.nodup, by simp, fun a ha b hb e => by
        rw [List.mem_singleton] at hb; subst hb; subst e; exact hin ha⟩
    · refine ((((Only.fut (F2.trans ((Fut.drew _).trans h3))).trans (O4.mono fun k _ hk => .inr (.inl hk))).trans (Only.fut h5')).trans (O7.mono fun k _ hk => .inr (.inr hk))).trans (OS.mono fun k _ hk => .inl hk)
    · intro k hk
      rcases hv7 k hk with h | h
      · exact .inl (.inr (.inr h))
      · exact .inr (by omega)
end Go.Proofs.Ytcekphjcmippoaa
