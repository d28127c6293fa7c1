/- GraphIn, RelF, RelV -/
import Derived.OrdersIn
import Derived.Shelf.Abstract
import Derived.Laws.EntriesVeiled
import Derived.Test.YtijdichfaofjaaaGreatDoorC08
/- A region that draws its order, within a round: by its graph. No program. -/
namespace Go.Proofs.YtijdichfaofjaaaGreatDoor
open Go.RowKit
set_option linter.unusedSimpArgs false
set_option linter.unusedVariables false

def noDeferB (ops : Array Oper) : Bool := ops.all fun o => match o.op with | .defer _ => false | _ => true

theorem wpAnyIn_of_seq {r m : Nat} {P : Program} {ops : Array Oper} {md : Region.Mode} {Q' : Exit → Act → World → Prop} : ∀ (l : List Oper) (k : Nat) (listed : Array Bool) (a : Act) (w : World), (∀ j, l[j]? = ops[k + j]?) →
    Region.seqB md ops l.length k listed = true → wpListIn (Fence.wide.inRound r) m P ops Q' l a w → wpAnyIn (Fence.wide.inRound r) m P md ops Q' l.length listed a w
  | [], _, _, _, _, _, hB, h => ⟨by simpa [Region.seqB] using hB, h⟩
  | o :: l, k, listed, a, w, hl, hB, h => by
    have h0 : ops[k]? = some o := by simpa using (hl 0).symm
    simp only [List.length_cons, Region.seqB, Bool.and_eq_true, decide_eq_true_eq] at hB
    refine ⟨fun h1 => (by rw [hB.1] at h1; cases h1), fun i hi => ?_⟩
    rw [hB.1] at hi
    have hik : i = k := by simpa using hi
    subst hik
    have hw : wpOpIn (Fence.wide.inRound r) m P ops Q' i (wpListIn (Fence.wide.inRound r) m P ops Q' l) a w := by unfold wpOpIn; simp only [h0]; exact h
    exact wpOpIn_mono (fun a' w' h' => wpAnyIn_of_seq l (i + 1) _ a' w' (fun j => by have := hl (j + 1); simpa [Nat.add_assoc, Nat.add_comm 1 j] using this) hB.2 h') hw

section
variable {P : Program} {ops : Array Oper} {n : Nat} {sp : Nat → Sp} {a0 : Act} {w0 : World} {vs : Nat → Value} {listed : Array Bool} {a : Act} {w : World}

theorem GInv.stepIn {l : Nat} {m : Nat} {full : List (Option Tmp × Sp)} {i : Nat} {Q : Exit → Act → World → Prop} {K : Act → World → Prop} (inv : GInv ops n sp a0 w0 vs listed a w) (hB : graphB ops n = true) (hnD : noDeferB ops = true)
    (hbd : ∀ k d, dstAt ops k = some d → k < n → d < a0.tmps.size)
    (hsp : ∀ k, k < n → full[k]? = some (dstAt ops k, sp k)) (_hfl : full.length = n) (hmono : ∀ k, k < n → (sp k).mono)
    (hob : ∀ o, ops[i]? = some o → ∀ w, Fut w0 w → lexAct o w (fun a => givesG P ops o a (sp i) w) 0 (full.take i) a0)
    (hi : i ∈ Region.ready .any ops listed) (hin : i < n)
    (hK : ∀ v a' w', GInv ops n sp a0 w0 (fun k => if k = i then v else vs k) (listed.setIfInBounds i true) a' w' → K a' w') : wpOpIn (Fence.wide.inRound l) m P ops Q i K a w := by
  obtain ⟨hsel, hns, hg⟩ := graphB_spec hB
  obtain ⟨hun, o, ho, hall⟩ := mem_ready.1 hi
  obtain ⟨o', ho', hedge, hdist, hlook⟩ := hg i hin
  obtain rfl : o = o' := Option.some.inj (ho.symm.trans ho')
  have hunf : listed.getD i false = false := getD_both hun
  have hdep : ∀ k, dep o k = true → listed.getD k false = true := fun k hk => by
    obtain ⟨e, he, hb, rfl⟩ := dep_spec hk
    exact hall e he hb
  have hlex := lexAct_inst vs _ 0 a0 (hob o ho w inv.fut) fun j d S hj hd => by
    rw [Nat.zero_add] at hd ⊢
    rw [List.getElem?_take] at hj
    split at hj
    · rename_i hji
      have h1 := hsp j (by omega)
      rw [hj] at h1
      simp only [Option.some.injEq, Prod.mk.injEq] at h1
      have := inv.held j (by omega) (hdep j hd)
      rw [← h1.2] at this
      exact this
    · cases hj
  have hslot : ∀ t ∈ o.looksAt ops, a.tmps[t]? = (putAll vs 0 (full.take i) a0).tmps[t]? := fun t ht => by
    by_cases hex : ∃ k, k < i ∧ dstAt ops k = some t
    · obtain ⟨k, hki, hkd⟩ := hex
      have hkn : k < n := by omega
      have hkl := hdep k ((hlook t ht k hkn hkd).1 hki)
      have h1 : (full.take i)[k]? = some (some t, sp k) := by rw [List.getElem?_take, if_pos hki, hsp k hkn, hkd]
      rw [inv.slot k t hkn hkl hkd, putAll_at vs t _ 0 a0 k (sp k) (hbd k t hkd hkn) h1, Nat.zero_add]
      · have h2 := inv.held k hkn hkl
        cases hs : sp k with
        | det c => rw [hs] at h2; simp only [Sp.holds] at h2; rw [h2]; rfl
        | rel S => rfl
      · intro j d s' hj hd
        rw [List.getElem?_take] at hj
        split at hj
        · rename_i hji
          rw [hsp j (by omega)] at hj
          simp only [Option.some.injEq, Prod.mk.injEq] at hj
          have hjd : dstAt ops j = some t := hj.1.trans hd
          rcases Nat.lt_trichotomy j k with h' | h' | h'
          · obtain ⟨ok, hok, _, hd2, _⟩ := hg k hkn
            exact absurd hjd (hd2 t (by simpa [dstAt, hok] using hkd) j h')
          · exact h'
          · obtain ⟨oj, hoj, _, hd2, _⟩ := hg j (by omega)
            exact absurd hkd (hd2 t (by simpa [dstAt, hoj] using hjd) k h')
        · cases hj
    · rw [putAll_other]
      · refine inv.free t fun k hkn hkl hkd => ?_
        rcases Nat.lt_trichotomy k i with h' | h' | h'
        · exact hex ⟨k, h', hkd⟩
        · subst h'; rw [hunf] at hkl; cases hkl
        · obtain ⟨ok, hok, hdk⟩ := (hlook t ht k hkn hkd).2 h'
          obtain ⟨e, he, hb, hei⟩ := dep_spec hdk
          have := inv.closed k ok hok hkl e he hb
          rw [hei, hunf] at this
          cases this
      · intro d s hm hd
        obtain ⟨j, hj⟩ := List.getElem?_of_mem hm
        rw [List.getElem?_take] at hj
        split at hj
        · rename_i hji
          rw [hsp j (by omega)] at hj
          simp only [Option.some.injEq, Prod.mk.injEq] at hj
          exact hex ⟨j, hji, hj.1.trans hd⟩
        · cases hj
  have hexec : execOp a.eval o = execOp (putAll vs 0 (full.take i) a0).eval o := execOp_congr o (fun cs b => Region.noSelect_spec hsel i o cs b ho) fun x hx => by
    cases x with
    | tmp t =>
      have := hslot t (List.mem_append_left _ (List.mem_filterMap.2 ⟨.tmp t, by simpa using hx, rfl⟩))
      simp only [Act.eval, Array.getD_eq_getD_getElem?, this]
    | _ => rfl
  have hwant : Region.wanted o (yielded ops a.tmps) = Region.wanted o (yielded ops (putAll vs 0 (full.take i) a0).tmps) := by
    unfold Region.wanted
    cases hgd : o.guard with
    | none => rfl
    | some gw =>
      obtain ⟨g, want⟩ := gw
      have hy : yielded ops a.tmps g = yielded ops (putAll vs 0 (full.take i) a0).tmps g := by
        unfold yielded
        cases ht : (ops[g]?).bind (·.dst) with
        | none => rfl
        | some t =>
          have := hslot t (by simp [Oper.looksAt, hgd, ht])
          simp only [Option.bind_some, this]
      simp only [hy]
  have hdi : dstAt ops i = o.dst := by simp [dstAt, ho]
  -- the invariant behind it
  have hnew : ∀ v w', Fut w w' → (sp i).holds v w' → GInv ops n sp a0 w0 (fun k => if k = i then v else vs k) (listed.setIfInBounds i true) (a.put o.dst v) w' := fun v w' hf hv => by
    have hil : i < listed.size := by rw [inv.lsize]; omega
    have hset : ∀ k, k ≠ i → (listed.setIfInBounds i true).getD k false = listed.getD k false := fun k hk => getD_set_ne false (Ne.symm hk)
    refine ⟨by rw [put_size]; exact inv.size, by rw [put_defers']; exact inv.defers, inv.fut.trans hf, fun t ht => ?_, fun k hk hl => ?_, fun k d hk hl hd => ?_, by simp [inv.lsize], fun j oj hj hl e he hb => ?_, fun t ht ht' => by rw [getD_set_ne true (by omega)]; exact inv.tail t ht ht'⟩
    · have hit : o.dst ≠ some t := by rw [← hdi]; exact ht i hin (by simp [hil])
      rw [put_other _ _ _ _ hit]
      refine inv.free t fun k hk hl => ht k hk ?_
      by_cases hki : k = i
      · subst hki; simp [hil]
      · rw [hset k hki]; exact hl
    · by_cases hki : k = i
      · subst hki; simpa using hv
      · simp only [hki, if_false]
        rw [hset k hki] at hl
        exact Sp.holds_mono (hmono k hk) hf (inv.held k hk hl)
    · by_cases hki : k = i
      · subst hki
        have hod : o.dst = some d := by rw [← hdi]; exact hd
        rw [hod]
        show _ = some (if k = k then v else vs k)
        rw [if_pos rfl]
        exact put_same _ _ _ (by rw [inv.size]; exact hbd k d hd hk)
      · simp only [hki, if_false]
        rw [hset k hki] at hl
        rw [put_other]
        · exact inv.slot k d hk hl hd
        · intro hod
          have hid : dstAt ops i = some d := hdi.trans hod
          rcases Nat.lt_or_ge k i with h' | h'
          · exact hdist d hod k h' hd
          · obtain ⟨ok, hok, _, hd2, _⟩ := hg k hk
            exact hd2 d (by simpa [dstAt, hok] using hd) i (by omega) hid
    · by_cases hij : i = j
      · subst hij
        have : oj = o := Option.some.inj (hj.symm.trans ho)
        subst this
        exact getD_set_true (hall e he hb)
      · rw [getD_set_ne false hij] at hl
        exact getD_set_true (inv.closed j oj hj hl e he hb)
  have hnd : ∀ c, o.op ≠ .defer c := fun c hc => by
    have h1 := Array.all_eq_true_iff_forall_mem.1 hnD o (Array.mem_of_getElem? ho)
    rw [hc] at h1; cases h1
  unfold wpOpIn
  simp only [ho]
  unfold givesG at hlex
  rw [← hwant] at hlex
  split
  · rename_i hw
    rw [if_pos hw] at hlex
    unfold gives at hlex
    rw [← hexec] at hlex
    unfold Oper.wpIn
    refine ⟨fun f _ => trivial, ?_⟩
    rw [semAt_plain hnd]
    generalize (execOp a.eval o).run P w = r at hlex ⊢
    cases r with
    | ok nx w' =>
      cases nx <;> simp only [givesUpon] at hlex <;> simp only [Oper.uponIn]
      case value u => exact hK u _ _ (hnew u w' hlex.1 hlex.2)
      case skip => exact hK undef _ _ (hnew undef w' hlex.1 hlex.2)
      case enter f args =>
        refine ⟨fun h => by simp [Fence.inRound, Fence.wide] at h, CallsIn.inRound l (callsIn_wide.2 (Calls.mono hlex fun e w'' he => ?_))⟩
        obtain ⟨v, rfl, hf, hv⟩ := he
        exact hK v _ _ (hnew v w'' hf hv)
    | halt x w' => simp only [givesUpon] at hlex
  · rename_i hw
    rw [if_neg hw] at hlex
    exact ⟨fun f _ => trivial, hK undef _ _ (hnew undef w (Fut.refl w) hlex)⟩
end

theorem wpIn_region_graph {r m : Nat} {P : Program} {id : Nat} {Q : Exit → Act → World → Prop} {a0 : Act} {w : World} {l : List Oper} (n : Nat) (hm : P.follows .mixedOrders = true)
    (hB : (graphB l.toArray n && tailB l.toArray n) = true) (hnD : noDeferB l.toArray = true) (hsz : ((List.range n).all fun k => match dstAt l.toArray k with | some d => decide (d < a0.tmps.size) | none => true) = true)
    (h : Obl P l.toArray w.drew a0 (wpListIn (Fence.wide.inRound r) m P l.toArray Q (l.drop n)) (l.take n) []) : (Code.region id l.toArray true).wpIn (Fence.wide.inRound r) m P Q a0 w := by
  simp only [Bool.and_eq_true, tailB] at hB
  obtain ⟨hG, hS, hseq⟩ := hB
  obtain ⟨hsel, hns, hg⟩ := graphB_spec hG
  have hnl : n ≤ l.length := by simpa using hns
  have hbd : ∀ k d, dstAt l.toArray k = some d → k < n → d < a0.tmps.size := fun k d hd hk => by
    have := List.all_eq_true.1 hsz k (List.mem_range.2 hk)
    simpa [hd] using this
  obtain ⟨full, hfl, _, hob, hfin⟩ := Obl_split _ _ h
  simp only [List.length_nil, Nat.zero_add] at hfl hob
  have htl : (l.take n).length = n := by simp; omega
  rw [htl] at hfl
  -- the specifications
  obtain ⟨sp, hsp⟩ : ∃ sp : Nat → Sp, ∀ k, sp k = ((full[k]?).map (·.2)).getD (.det undef) := ⟨_, fun _ => rfl⟩
  have hfull : ∀ k, k < n → ∃ o, l[k]? = some o ∧ full[k]? = some (dstAt l.toArray k, sp k) ∧ (sp k).mono ∧
      ∀ w', Fut w.drew w' → lexAct o w' (fun a => givesG P l.toArray o a (sp k) w') 0 (full.take k) a0 := fun k hk => by
    have hlk : l[k]? = some (l[k]'(by omega)) := List.getElem?_eq_getElem (by omega)
    obtain ⟨s, hs, hmono, hlex⟩ := hob k _ (by rw [List.getElem?_take, if_pos hk]; exact hlk)
    have hspk : sp k = s := by rw [hsp, hs]; rfl
    refine ⟨_, hlk, ?_, by rw [hspk]; exact hmono, by rw [hspk]; exact hlex⟩
    rw [hs, hspk]
    simp [dstAt, hlk]
  refine wpIn_region_any hm ?_
  have main : ∀ (f : Nat) (listed : Array Bool) (a : Act) (w' : World) (vs : Nat → Value), GInv l.toArray n sp a0 w.drew vs listed a w' → unl listed n = f →
      wpAnyIn (Fence.wide.inRound r) m P .any l.toArray Q (f + (l.length - n)) listed a w' := by
    intro f
    induction f with
    | zero =>
      intro listed a w' vs inv hf
      rw [Nat.zero_add]
      have hlisted : listed = headDone n l.length := by
        refine Array.ext_getElem? fun t => ?_
        by_cases ht : t < l.length
        · have hts : t < listed.size := by rw [inv.lsize]; simpa using ht
          have h2 : (headDone n l.length)[t]? = some (decide (t < n)) := by simp [headDone, ht]
          rw [h2, Array.getElem?_eq_getElem hts]
          by_cases htn : t < n
          · have := unl_zero n hf t htn
            simp [hts] at this
            simp [htn, this]
          · have := inv.tail t (by omega) (by simpa using ht)
            simp [hts] at this
            simp [htn, this]
        · rw [Array.getElem?_eq_none (by rw [inv.lsize]; simp; omega), Array.getElem?_eq_none (by simp [headDone]; omega)]
      have hlast := lexFin_inst (K := fun a => wpListIn (Fence.wide.inRound r) m P l.toArray Q (l.drop n) a w') vs full 0 a0 (hfin w' inv.fut) fun j d S hj => by
        rw [Nat.zero_add]
        have hjn : j < n := by rw [← hfl]; exact (List.getElem?_eq_some_iff.1 hj).1
        obtain ⟨_, _, h1, _, _⟩ := hfull j hjn
        rw [hj] at h1
        simp only [Option.some.injEq, Prod.mk.injEq] at h1
        have := inv.held j hjn (unl_zero n hf j hjn)
        rw [← h1.2] at this
        exact this
      have hact : a = putAll vs 0 full a0 := by
        refine act_ext (fun t => ?_) ?_
        · by_cases hex : ∃ k, k < n ∧ dstAt l.toArray k = some t
          · obtain ⟨k, hk, hkd⟩ := hex
            obtain ⟨_, _, h1, _, _⟩ := hfull k hk
            rw [hkd] at h1
            rw [inv.slot k t hk (unl_zero n hf k hk) hkd, putAll_at vs t full 0 a0 k (sp k) (hbd k t hkd hk) h1, Nat.zero_add]
            · have h2 := inv.held k hk (unl_zero n hf k hk)
              cases hs : sp k with
              | det c => rw [hs] at h2; simp only [Sp.holds] at h2; rw [h2]; rfl
              | rel S => rfl
            · intro j d s' hj hd
              have hjn : j < n := by rw [← hfl]; exact (List.getElem?_eq_some_iff.1 hj).1
              obtain ⟨_, _, h3, _, _⟩ := hfull j hjn
              rw [hj] at h3
              simp only [Option.some.injEq, Prod.mk.injEq] at h3
              have hjd : dstAt l.toArray j = some t := h3.1.symm.trans hd
              rcases Nat.lt_trichotomy j k with h' | h' | h'
              · obtain ⟨ok, hok, _, hd2, _⟩ := hg k hk
                exact absurd hjd (hd2 t (by simpa [dstAt, hok] using hkd) j h')
              · exact h'
              · obtain ⟨oj, hoj, _, hd2, _⟩ := hg j hjn
                exact absurd hkd (hd2 t (by simpa [dstAt, hoj] using hjd) k h')
          · rw [inv.free t fun k hk _ hd => hex ⟨k, hk, hd⟩, putAll_other]
            intro d s hmem hd
            obtain ⟨j, hj⟩ := List.getElem?_of_mem hmem
            have hjn : j < n := by rw [← hfl]; exact (List.getElem?_eq_some_iff.1 hj).1
            obtain ⟨_, _, h3, _, _⟩ := hfull j hjn
            rw [hj] at h3
            simp only [Option.some.injEq, Prod.mk.injEq] at h3
            exact hex ⟨j, hjn, h3.1.symm.trans hd⟩
        · rw [inv.defers]
          have : ∀ (acc : List (Option Tmp × Sp)) (k : Nat) (b : Act), (putAll vs k acc b).defers = b.defers := by
            intro acc
            induction acc with
            | nil => intro k b; rfl
            | cons x r ih =>
              intro k b
              obtain ⟨d, s⟩ := x
              cases s <;> simp only [putAll] <;> rw [ih, put_defers']
          rw [this]
      rw [← hact] at hlast
      have := wpAnyIn_of_seq (r := r) (m := m) (md := .any) (P := P) (Q' := Q) (l.drop n) n listed a w' (fun j => by simp [List.getElem?_drop])
        (by rw [hlisted, List.length_drop]; simpa using hseq) hlast
      rwa [List.length_drop] at this
    | succ f ih =>
      intro listed a w' vs inv hf
      obtain ⟨i0, hi0, hi1, hi2⟩ := unl_some n (by rw [hf]; omega)
      have hils : ∀ i, i < n → i < listed.size := fun i hi => by rw [inv.lsize]; simp; omega
      have hready : i0 ∈ Region.ready .any l.toArray listed := by
        obtain ⟨o, ho, hedge, _⟩ := hg i0 hi0
        exact mem_ready.2 ⟨getD_in (hils i0 hi0) hi1, o, ho, fun e he hb => hi2 _ (hedge e he hb)⟩
      rw [show f + 1 + (l.length - n) = (f + (l.length - n)) + 1 by omega]
      refine ⟨fun h0 => (by rw [h0] at hready; cases hready), fun i hi => ?_⟩
      have hin : i < n := by
        rcases Nat.lt_or_ge i n with h' | h'
        · exact h'
        · exfalso
          have hisz : i < l.toArray.size := by
            obtain ⟨_, o, ho, _⟩ := mem_ready.1 hi
            exact (Array.getElem?_eq_some_iff.1 ho).1
          simp only [sinkB, Bool.or_eq_true, decide_eq_true_eq, Bool.and_eq_true] at hS
          rcases hS with hS | ⟨hs, hc⟩
          · omega
          · exact tail_waits hs hc (by omega) ⟨inv.lsize, inv.closed, inv.tail⟩ _ i0 rfl hi0 (getD_in (hils i0 hi0) hi1) i h' hi
      refine inv.stepIn (l := r) (m := m) (full := full) (Q := Q) hG hnD hbd (fun k hk => (by obtain ⟨_, _, h1, _, _⟩ := hfull k hk; exact h1)) hfl (fun k hk => (by obtain ⟨_, _, _, h1, _⟩ := hfull k hk; exact h1))
        (fun o ho => (by
          obtain ⟨o', ho', _, _, h1⟩ := hfull i hin
          have : o = o' := Option.some.inj ((by simpa using ho.symm : some o = l[i]?).trans ho')
          subst this
          exact h1)) hi hin fun v a' w'' inv' => ih _ a' w'' _ inv' ?_
      have hun := getD_both (mem_ready.1 hi).1
      have := unl_set hun (hils i hin) n hin
      omega
  have := main n (Array.replicate l.toArray.size false) a0 w.drew (fun _ => undef)
    ⟨rfl, rfl, Fut.refl _, fun _ _ => rfl, fun k _ hl => (by rw [getD_replicate_false] at hl; cases hl), fun k _ _ hl => (by rw [getD_replicate_false] at hl; cases hl), by simp,
      fun j oj _ hl => (by rw [getD_replicate_false] at hl; cases hl), fun t _ ht => getD_in (by simpa using ht) (getD_replicate_false _ _)⟩ (unl_none _ _)
  rwa [show n + (l.length - n) = l.toArray.size by simp; omega] at this

theorem wpIn_graph {r m : Nat} {P : Program} {id : Nat} {Q : Exit → Act → World → Prop} {a0 : Act} {w : World} {l : List Oper} (n : Nat) (shape : List Sh) (hm : P.follows .mixedOrders = true)
    (hB : (graphB l.toArray n && tailB l.toArray n) = true) (hnD : noDeferB l.toArray = true) (hsz : ((List.range n).all fun k => match dstAt l.toArray k with | some d => decide (d < a0.tmps.size) | none => true) = true)
    (h : Exs (fun sps => Run P l.toArray w.drew (wpListIn (Fence.wide.inRound r) m P l.toArray Q (l.drop n)) 0 (l.take n) sps a0 []) shape) : (Code.region id l.toArray true).wpIn (Fence.wide.inRound r) m P Q a0 w := by
  obtain ⟨sps, hs⟩ := Exs_some shape h
  exact wpIn_region_graph n hm hB hnD hsz (Obl_of_run _ sps [] fun _ => hs)
end Go.Proofs.YtijdichfaofjaaaGreatDoor
/- Relation.Select. -/
namespace Go.Proofs.YtijdichfaofjaaaGreatDoor
open Go.RowKit Go.WideMaps Go.Shelf
set_option linter.unusedSimpArgs false
set_option linter.unusedVariables false
attribute [local go_sem] Oper.semAt_some

/-- The numbers of the rows that agree, among the first k. -/
def selK (ar m : Nat) (x : Rw) (xs : List Rw) (k : Nat) : List Int := List.map Int.ofNat ((List.range k).filter fun i => decide (cutL ar m (xs.getD i zeroRow) = cutL ar m x))
def selL (ar m : Nat) (x : Rw) (xs : List Rw) : List Int := selK ar m x xs xs.length
theorem selK_len (ar m : Nat) (x : Rw) (xs : List Rw) (k : Nat) : (selK ar m x xs k).length ≤ k := by
  unfold selK
  rw [List.length_map]
  have := List.length_filter_le (fun i => decide (cutL ar m (xs.getD i zeroRow) = cutL ar m x)) (List.range k)
  rwa [List.length_range] at this
theorem selK_succ (ar m : Nat) (x : Rw) (xs : List Rw) (k : Nat) : selK ar m x xs (k + 1) = selK ar m x xs k ++ if cutL ar m (xs.getD k zeroRow) = cutL ar m x then [(k : Int)] else [] := by
  unfold selK
  rw [List.range_succ, List.filter_append, List.map_append]
  congr 1
  by_cases h : cutL ar m (xs.getD k zeroRow) = cutL ar m x
  · rw [if_pos h, List.filter_cons_of_pos (p := fun i => decide (cutL ar m (xs.getD i zeroRow) = cutL ar m x)) (decide_eq_true h)]; rfl
  · rw [if_neg h, List.filter_cons_of_neg (p := fun i => decide (cutL ar m (xs.getD i zeroRow) = cutL ar m x)) (by simpa using h)]; rfl
theorem RI.one : ∀ (w : World) cs x, RI w cs x → ∀ u ∈ cs, u.oneCell' = true := fun w cs x h u hu => by
  obtain rfl := h
  rw [List.mem_singleton] at hu
  subst hu; rfl
theorem infoI : (Tryz.prog.info? 3).map (fun i => (i.zero, i.size, i.bytes)) = some (some (.int .i64 0), 1, 8) := by kernel_rfl
theorem exec_append_I {o : Oper} {a : Act} {B : Nat} {w : World} {v u : Value} {xs ys : List Int} {M : Nat} (s x : Operand)
    (ho : o.op = .call { callee := .builtin .append, args := #[s, x], argTypes := #[33, 33] })
    (hs : a.eval s = v) (hx : a.eval x = u) (hown : OwnL 1 B 3 RI w v xs) (hu : SlRep 1 M RI w u ys) (hlen : xs.length + ys.length ≤ 17592186044416) (hbase : B ≤ w.heap.size) :
    ∃ v' w', (execOp a.eval o).run Tryz.prog w = .ok (.value v') w' ∧ OwnL 1 B 3 RI w' v' (xs ++ ys) ∧ w.grownBy w' v.ownBlock ∧ (v'.ownBlock = v.ownBlock ∨ v'.ownBlock = some w.heap.size) := by
  obtain ⟨i, hi, hz, hs', hb⟩ := info_parts infoI
  obtain ⟨v', w', hr, h2, h3, h4⟩ := run_append_list_at 33 o.type i _ 8 Tryz.underlying33 hi hz hs' hb rfl (by omega) RI.one (fun _ _ _ h _ => h) hown hu (by unfold maxLen; omega) (by omega) hbase
  refine ⟨v', w', ?_, h2, h3, h4⟩
  unfold execOp
  simp only [ho, resolve, invoke, builtin, Sem.run_bind, Sem.run_pure, Result.andThen_ok, List.map_toArray, List.map_cons, List.map_nil, hs, hx, hr]
theorem wpListIn_append_I {F : Fence} {n : Nat} {ops : Array Oper} {rest : List Oper} {Q : Exit → Act → World → Prop} {o : Oper} {a : Act} {B : Nat} {w : World} {v u : Value} {xs ys : List Int} {M : Nat} (hF : ∀ f, F.fn f) (hgd : Region.wanted o (yielded ops a.tmps) = true) (s x : Operand)
    (ho : o.op = .call { callee := .builtin .append, args := #[s, x], argTypes := #[33, 33] })
    (hs : a.eval s = v) (hx : a.eval x = u) (hown : OwnL 1 B 3 RI w v xs) (hu : SlRep 1 M RI w u ys) (hlen : xs.length + ys.length ≤ 17592186044416) (hbase : B ≤ w.heap.size)
    (h : ∀ v' w', OwnL 1 B 3 RI w' v' (xs ++ ys) → w.grownBy w' v.ownBlock → (v'.ownBlock = v.ownBlock ∨ v'.ownBlock = some w.heap.size) → wpListIn F n Tryz.prog ops Q rest (a.put o.dst v') w') : wpListIn F n Tryz.prog ops Q (o :: rest) a w := by
  obtain ⟨v', w', hr, h2, h3, h4⟩ := exec_append_I s x ho hs hx hown hu hlen hbase
  exact wpListIn_of_run hF (fun c h => by rw [ho] at h; cases h) hgd hr (h v' w' h2 h3 h4)
theorem intOne (w : World) (n : Int) : SlRep 1 1 RI (w.alloc (.cells #[.int .i64 n] 3)) (.slice (some ⟨w.heap.size, 0, none⟩) 1 1) [n] :=
  ⟨_, _, rfl, Nat.le_refl _, Nat.le_refl _, fun i y hy => by
    have hi : i = 0 := by
      have := (List.getElem?_eq_some_iff.1 hy).1
      simp at this; omega
    subst hi
    simp at hy
    subst hy
    refine ⟨_, 0, [.int .i64 n], rfl, rfl, fun j c hj => ?_, rfl⟩
    rw [Nat.zero_mul, show 0 + (0 + j) = j by omega]
    exact cell_at (heap_alloc_new w (.cells #[.int .i64 n] 3)) j c (by simpa using hj)⟩

set_option maxHeartbeats 1600000 in
set_option maxRecDepth 100000 in
theorem select_coreN {w : World} {p : Option Addr} {ar m : Nat} {xs : List Rw} (hm : m < 2 ^ 32)
    (hA : ∀ W, Fut w W → Calls Tryz.prog 19 #[.pointer p] W fun e W' => e = .returned (.int .i64 ar) ∧ W' = W)
    (hL : ∀ W, Fut w W → Calls Tryz.prog 18 #[.pointer p] W fun e W' => e = .returned (.int .i64 xs.length) ∧ W' = W)
    (hIt : ∀ W lb, Fut w W → SeqAt W lb (.pointer p) 0 xs.length → IterAt Tryz.prog 70 lb (hiS xs xs.length - loS 0) (spanArgs xs 0) W)
    (hok : ∀ x ∈ xs, Rw.ok x) (hl : xs.length ≤ 1407374883512) (x : Rw) (hx : Rw.ok x) :
    Calls Tryz.prog 6 #[.pointer p, .int .u32 m, Rw.val x] w fun e w' => ∃ v, e = .returned v ∧ OwnL 1 w.heap.size 3 RI w' v (selL ar m x xs) ∧ Fut w w' ∧ (selL ar m x xs = [] → v.ownBlock = none) := by
  have HA := Lib.hid hA
  have HL := Lib.hid hL
  have HIt := Lib.hid hIt
  have HOk := Lib.hid hok
  have X := Lib.hid hx
  clear hA hL hIt hok hx
  unfold Rw.val
  refine (callsIn_wide (n := 3)).1 ?_
  refine callsIn_of_wp_marks Tryz.func6 rfl trivial ?_ rfl
  refine wpIn_wide.2 ?_
  simp only [Tryz.ntmps6, List.size_toArray, List.length_cons, List.length_nil, Nat.reduceAdd, Nat.reduceSub, Array.replicate_succ, Array.replicate_zero, List.push_toArray, List.append_toArray, List.nil_append, List.cons_append]
  have hr : ∀ o, RowAt ((((w.alloc (.cells #[.pointer p] 29)).alloc (.cells #[.int .u32 m] 24)).alloc (.cells (Rw.cells x).toArray 27)).alloc o) (w.heap.size + 1 + 1) 0 x := fun o => by
    have := (RowAt.new ((w.alloc (.cells #[.pointer p] 29)).alloc (.cells #[.int .u32 m] 24)) 27 X.out).fut (Fut.alloc _ o)
    rwa [World.size_alloc, World.size_alloc] at this
  go_wp2_with (first | (refine wpList_load_R rowTy (wanted_none rfl _) _ rfl rfl (hr _) ?_))
  have a1 := Fut.alloc w (.cells #[Value.pointer p] 29)
  have a2 := Fut.alloc (w.alloc (.cells #[Value.pointer p] 29)) (.cells #[Value.int .u32 m] 24)
  have a3 := Fut.alloc ((w.alloc (.cells #[Value.pointer p] 29)).alloc (.cells #[Value.int .u32 m] 24)) (.cells (Rw.cells x).toArray 27)
  have k1 := cell_at (heap_alloc_new w (.cells #[Value.pointer p] 29)) 0 _ rfl
  have k2 := cell_at (heap_alloc_new (w.alloc (.cells #[Value.pointer p] 29)) (.cells #[Value.int .u32 m] 24)) 0 _ rfl
  rw [World.size_alloc] at k2
  obtain ⟨W3, hW3⟩ : ∃ W, ((w.alloc (.cells #[Value.pointer p] 29)).alloc (.cells #[Value.int .u32 m] 24)).alloc (.cells (Rw.cells x).toArray 27) = W := ⟨_, rfl⟩
  have hs3 : W3.heap.size = w.heap.size + 1 + 1 + 1 := by rw [← hW3]; simp
  rw [hW3] at a3 ⊢
  replace k1 := a3.cell (a2.cell k1)
  replace k2 := a3.cell k2
  replace a3 := (a1.trans a2).trans a3
  clear hW3 hr a1 a2
  have a4 := fun o => Fut.alloc W3 o
  have k3 := cell_at (heap_alloc_new W3 (.cells #[Value.func (.func 23) #[] #[Value.pointer (some ⟨w.heap.size, 0, none⟩), Value.pointer (some ⟨w.heap.size + 1, 0, none⟩)]] 87)) 0 _ rfl
  refine (only_any hm ((a4 _).cell k1) ((a4 _).cell k2) (fun W hW => HA.out W (a3.trans ((a4 _).trans hW))) x X.out).mono ?_
  rintro e w1 ⟨rfl, f1⟩
  replace k1 := f1.cell ((a4 _).cell k1)
  replace k2 := f1.cell ((a4 _).cell k2)
  replace k3 := f1.cell k3
  replace f1 := a3.trans ((a4 _).trans f1)
  have h13 : W3.heap.size < w1.heap.size := lt_of_cell k3
  rw [hs3] at k3
  clear a4 a3
  go_wp2_with (first | (refine wpList_store_new rowTy (wanted_none rfl _) _ _ rfl rfl rfl rfl (cutK_ok X.out) ?_))
  have b1 := Fut.alloc w1 (.cells (Rw.cells (cutL ar m x)).toArray 27)
  have b2 := Fut.alloc (w1.alloc (.cells (Rw.cells (cutL ar m x)).toArray 27)) (.cells #[Value.slice none 0 0] 33)
  have hrw := (RowAt.new w1 27 (cutK_ok (ar := ar) (m := m) (k := 24) X.out)).fut b2
  have hO := heap_alloc_new (w1.alloc (.cells (Rw.cells (cutL ar m x)).toArray 27)) (.cells #[Value.slice none 0 0] 33)
  rw [World.size_alloc] at hO
  obtain ⟨w2, hw2⟩ : ∃ W, (w1.alloc (.cells (Rw.cells (cutL ar m x)).toArray 27)).alloc (.cells #[Value.slice none 0 0] 33) = W := ⟨_, rfl⟩
  have hs2 : w2.heap.size = w1.heap.size + 1 + 1 := by rw [← hw2]; simp
  rw [show cutK ar m 24 x = cutL ar m x from rfl] at hrw
  rw [hw2] at hrw hO b2 ⊢
  clear hw2
  replace b2 := b1.trans b2
  replace k1 := b2.cell k1
  replace k2 := b2.cell k2
  replace k3 := b2.cell k3
  replace f1 := f1.trans b2
  clear b1 b2
  refine wp_graph 4 [.d, .d, .d, .r (fun v w => ∃ lb, v = .func (.func 70) #[] lb ∧ SeqAt w lb (.pointer p) 0 xs.length)] (by kernel_rfl) (by kernel_rfl) (by kernel_rfl) ?_
  simp only [List.take_succ_cons, List.take_zero, List.drop_succ_cons, List.drop_zero, Exs]
  iterate 3 apply Exists.intro
  apply Run.valG (wanted_none rfl _)
  · intro w1 h1 hk
    have q1 := h1.cell k1; have hg := f1.trans ((Fut.drew _).trans h1)
    have hcw := fun b o => Below.cell (p := ⟨b, o, none⟩) h1
    go_simp; rfl
  simp only [Act.put, List.setIfInBounds_toArray, List.set_cons_succ, List.set_cons_zero, List.nil_append, List.cons_append]
  apply Run.valG (wanted_none rfl _)
  · intro w1 h1 hk
    have q1 := h1.cell k1; have hg := f1.trans ((Fut.drew _).trans h1)
    have hcw := fun b o => Below.cell (p := ⟨b, o, none⟩) h1
    go_simp; rfl
  simp only [Act.put, List.setIfInBounds_toArray, List.set_cons_succ, List.set_cons_zero, List.nil_append, List.cons_append]
  apply Run.call (wanted_none rfl _) (fun _ _ => by go_simp; exact ⟨rfl, rfl⟩)
  · intro w1 h1 hk
    have q1 := h1.cell k1; have hg := f1.trans ((Fut.drew _).trans h1)
    refine (HL.out _ hg).mono ?_; rintro e w' ⟨rfl, rfl⟩; exact ⟨rfl, Fut.refl _⟩
  simp only [Act.put, List.setIfInBounds_toArray, List.set_cons_succ, List.set_cons_zero, List.nil_append, List.cons_append]
  apply Run.callR (wanted_none rfl _) (by intro v w w' hf hs; exact (by obtain ⟨lb, rfl, h⟩ := hs; exact ⟨lb, rfl, h.fut hf⟩)) (fun _ _ => by go_simp; exact ⟨rfl, rfl⟩)
  · intro w1 h1 hk
    have q1 := h1.cell k1; have hg := f1.trans ((Fut.drew _).trans h1)
    refine (range_any _ _ _ _).mono ?_; rintro e w' ⟨lb, rfl, hq, hf⟩; exact ⟨_, rfl, hf, lb, rfl, hq⟩
  intro v3
  simp only [Act.put, List.setIfInBounds_toArray, List.set_cons_succ, List.set_cons_zero, List.nil_append, List.cons_append]
  apply Run.done
  intro wl hl' hk
  obtain ⟨f3, _⟩ := hk
  obtain ⟨lb, rfl, hsq⟩ := f3
  have hg := (Fut.drew w2).trans hl'
  have hsl := hg.size
  have HS := Lib.hid hsq
  replace k1 := hg.cell k1
  replace k2 := hg.cell k2
  replace k3 := hg.cell k3
  replace hrw := hrw.fut hg
  replace hO := hg.block hO
  have FL := Lib.hid (f1.trans hg)
  have hcw : w.heap.size + 1 + 1 + 1 < w1.heap.size := by omega
  clear hsq f1 hg hl'
  have hN : hiS xs (xs.length : Int) - loS 0 = xs.length := by simp [hiS, loS]
  have hOl : w1.heap.size + 1 < wl.heap.size := (Array.getElem?_eq_some_iff.1 hO).1
  have HI0 := Lib.hid (show ∀ k (hk : k < xs.length), spanArgs xs 0 k = #[.int .i64 (k : Int), Rw.val xs[k]] from fun k hk => by
    simp [spanArgs, loS, List.getD, hk])
  go_wp2_with fail
  refine wp_range (N := hiS xs (xs.length : Int) - loS 0) (args := spanArgs xs 0) rfl (enters_of Tryz.func70 (by kernel_rfl) rfl) (fun W hf => HIt.out W lb (FL.out.trans hf) (HS.out.fut hf)) (fun k hk => rfl)
    (fun s k W => ∃ ov, OwnL 1 w.heap.size 3 RI W ov (selK ar m x xs k) ∧ (∀ j, ov.ownBlock = some j → s ≤ j) ∧ W.heap[w1.heap.size + 1]? = some (.cells #[ov] 33 (0, 0)) ∧ Only (fun j => j = w1.heap.size + 1) wl W ∧ (selK ar m x xs k = [] → ov.ownBlock = none))
    (fun _ _ _ => False) ?hIf ?hI ?hIx ?h0 ?hbody ?hdone ?hstop
  case hIf => rintro s k W W' hf ⟨ov, h1, h2, h3, h4, h5⟩; exact ⟨ov, h1.fut RI.stays hf, h2, hf.block h3, h4.trans (Only.fut hf), h5⟩
  case hI =>
    rintro s k W l o hl1 hl2 hs ⟨ov, h1, h2, h3, h4, h5⟩
    have OP : Only (fun j => j = l) W (W.putObj l o) := Only.put _ _ rfl
    exact ⟨ov, h1.only (fun _ _ h => h) OP (fun j hj e => by have := h2 j hj; omega), h2, OP.keeps h3 (by show ¬ w1.heap.size + 1 = l; omega), h4.then OP fun j hj hlt => by omega, h5⟩
  case hIx => exact fun _ _ _ _ _ _ _ _ h => h
  case h0 =>
    intro w4 hf hs
    exact ⟨_, OwnL.nil, fun j hj => (by cases hj), hf.block hO, Only.fut hf, fun _ => rfl⟩
  case hbody =>
    rintro l s k W hl1 hl2 hs hsW hk ⟨ov, h1, h2, h3, h4, h5⟩ hrec
    have hkx : k < xs.length := by omega
    rw [HI0.out k hkx]
    have hyo := HOk.out _ (List.getElem_mem hkx)
    have htk := selK_succ ar m x xs k
    rw [show xs.getD k zeroRow = xs[k] by simp [List.getD, hkx]] at htk
    have hsl0 := selK_len ar m x xs k
    generalize xs[k] = y at hyo htk
    obtain ⟨rr, hrr⟩ := hrec
    gi_wp2_with (first | (refine wpListIn_store_new (round_fn l) rowTy (wanted_none rfl _) _ _ rfl rfl rfl rfl hyo ?_))
    refine ⟨Mid.of_fut (Fut.alloc _ _) hsW, fun o => ?_⟩
    have OP : Only (fun j => j = l) W ((W.alloc (.cells (Rw.cells y).toArray 27)).putObj l o) := (Only.fut (Fut.alloc _ _)).trans (Only.put _ _ rfl)
    have hr5 : RowAt ((W.alloc (.cells (Rw.cells y).toArray 27)).putObj l o) W.heap.size 0 y := (RowAt.new W 27 hyo).only (Only.put (S := fun j => j = l) l o rfl) (by omega)
    have hsP : W.heap.size < ((W.alloc (.cells (Rw.cells y).toArray 27)).putObj l o).heap.size := by rw [World.putObj_size]; simp
    obtain ⟨Wp, hWp⟩ : ∃ x, (W.alloc (.cells (Rw.cells y).toArray 27)).putObj l o = x := ⟨_, rfl⟩
    rw [hWp] at OP hr5 hsP ⊢
    clear hWp
    replace h1 : OwnL 1 w.heap.size 3 RI Wp ov (selK ar m x xs k) := h1.only (fun _ _ h => h) OP (fun j hj e => by have := h2 j hj; omega)
    replace h3 := OP.keeps h3 (by show ¬ w1.heap.size + 1 = l; omega)
    replace h4 := h4.then OP fun j hj hlt => by omega
    have q1 := h4.cell k1 (by show ¬ w.heap.size = w1.heap.size + 1; omega)
    have q2 := h4.cell k2 (by show ¬ w.heap.size + 1 = w1.heap.size + 1; omega)
    have q3 := h4.cell k3 (by show ¬ w.heap.size + 1 + 1 + 1 = w1.heap.size + 1; omega)
    have q4 := hrw.only h4 (by omega)
    have hFw : Fut w Wp := ((Only.fut FL.out).trans (h4.mono (S' := fun j => w.heap.size ≤ j) fun j _ hj => by omega)).toFut fun j hj => hj
    have HOnly := Lib.hid (fun W (hW : Fut Wp W) => only_any (w := W) hm (hW.cell q1) (hW.cell q2) (fun W' hW' => HA.out W' (hFw.trans (hW.trans hW'))) y hyo)
    clear hrr
    gi_wp2_with fail
    refine wpIn_graph 5 [.d, .d, .d, .d, .d] (by kernel_rfl) (by kernel_rfl) (by kernel_rfl) (by kernel_rfl) ?_
    simp only [List.take_succ_cons, List.take_zero, List.drop_succ_cons, List.drop_zero, Exs]
    iterate 5 apply Exists.intro
    apply Run.valG (wanted_none rfl _)
    · intro w1 h1 hk
      have q := h1.cell q3; have hg := (Fut.drew _).trans h1
      have hcw := fun b o => Below.cell (p := ⟨b, o, none⟩) h1
      go_simp; rfl
    simp only [Act.put, List.setIfInBounds_toArray, List.set_cons_succ, List.set_cons_zero, List.nil_append, List.cons_append]
    apply Run.valG (wanted_none rfl _)
    · intro w1 h1 hk
      have q := h1.cell q3; have hg := (Fut.drew _).trans h1
      have hcw := fun b o => Below.cell (p := ⟨b, o, none⟩) h1
      exact exec_load_R rowTy _ rfl rfl (hr5.fut hg)
    simp only [Act.put, List.setIfInBounds_toArray, List.set_cons_succ, List.set_cons_zero, List.nil_append, List.cons_append]
    apply Run.call (wanted_none rfl _) (fun _ _ => by go_simp; exact ⟨rfl, rfl⟩)
    · intro w1 h1 hk
      have q := h1.cell q3; have hg := (Fut.drew _).trans h1
      refine (HOnly.out _ hg).mono ?_; rintro e w' ⟨rfl, hf⟩; exact ⟨rfl, hf⟩
    simp only [Act.put, List.setIfInBounds_toArray, List.set_cons_succ, List.set_cons_zero, List.nil_append, List.cons_append]
    apply Run.valG (wanted_none rfl _)
    · intro w1 h1 hk
      have q := h1.cell q3; have hg := (Fut.drew _).trans h1
      have hcw := fun b o => Below.cell (p := ⟨b, o, none⟩) h1
      exact exec_load_R rowTy _ rfl rfl (q4.fut hg)
    simp only [Act.put, List.setIfInBounds_toArray, List.set_cons_succ, List.set_cons_zero, List.nil_append, List.cons_append]
    apply Run.valG (wanted_none rfl _)
    · intro w1 h1 hk
      have q := h1.cell q3; have hg := (Fut.drew _).trans h1
      have hcw := fun b o => Below.cell (p := ⟨b, o, none⟩) h1
      exact exec_eql_R rowTy noGuard _ _ _ rfl rfl rfl (cutK_ok hyo) (cutK_ok X.out)
    simp only [Act.put, List.setIfInBounds_toArray, List.set_cons_succ, List.set_cons_zero, List.nil_append, List.cons_append]
    apply Run.done
    intro w6 h6 hk
    clear hk
    have F6 := (Fut.drew _).trans h6
    have p1 : OwnL 1 w.heap.size 3 RI w6 ov (selK ar m x xs k) := h1.fut RI.stays F6
    have p3 := F6.block h3
    have p4 : Only (fun j => j = w1.heap.size + 1) wl w6 := h4.trans (Only.fut F6)
    have hM6 : Mid wl.heap.size s Wp w6 := Mid.of_fut F6 (by omega)
    clear HOnly h1 h3 h4 h6 q1 q2 q3 q4 hr5
    by_cases he : cutL ar m y = cutL ar m x
    · rw [if_pos he] at htk
      rw [decide_eq_true he]
      have hs6 := F6.size
      have hOa := p1.fut RI.stays (Fut.alloc w6 (.cells #[.int .i64 (k : Int)] 3))
      have hRo := intOne w6 (k : Int)
      have hLa : (selK ar m x xs k).length + [(k : Int)].length ≤ 17592186044416 := by simp; omega
      have hBa : w.heap.size ≤ (w6.alloc (.cells #[.int .i64 (k : Int)] 3)).heap.size := by have := hFw.size; simp; omega
      have c9 := cell_at p3 0 _ rfl
      have p3a := (Fut.alloc w6 (.cells #[.int .i64 (k : Int)] 3)).block p3
      have hne : ∀ j, ov.ownBlock = some j → j ≠ w1.heap.size + 1 := fun j hj e => by have := h2 j hj; have := hOl; omega
      gi_wp2_with (first | (refine wpListIn_append_I (round_fn l) (wanted_none rfl _) _ _ rfl rfl rfl hOa hRo hLa hBa ?_; intro v8 w8 hO8 hG8 hB8; obtain ⟨A8, cap8, hv8, hc8, _⟩ := hO8.rep.form; have O8 : Only (fun j => ov.ownBlock = some j) _ w8 := Only.grown hG8 (fun j hj => hj); have b8 := O8.keeps p3a (fun h => hne _ h rfl); have q8 := cell_at b8 0 _ rfl; have z8 := free_at b8 0; subst hv8))
      have hel : (selK ar m x xs k ++ [(k : Int)]).length = (selK ar m x xs k).length + 1 := by simp
      rw [hel] at hB8
      rw [hel, ← htk] at hO8
      have hs8 := O8.size
      have hB9 : ∀ j, (Value.slice A8 ((selK ar m x xs k).length + 1) cap8).ownBlock = some j → ov.ownBlock = some j ∨ w6.heap.size < j := fun j hj => by
        rcases hB8 with h | h
        · exact .inl ((show ov.ownBlock = _ from h.symm).trans hj)
        · have e := (show some _ = _ from h.symm).trans hj
          rw [World.size_alloc] at e
          have := Option.some.inj e
          omega
      have hne9 : ∀ j, (Value.slice A8 ((selK ar m x xs k).length + 1) cap8).ownBlock = some j → ¬ j = w1.heap.size + 1 := fun j hj e => by
        rcases hB9 j hj with h | h
        · exact hne j h e
        · omega
      have OS : Only (fun j => j = w1.heap.size + 1) w8 (w8.setCell ⟨w1.heap.size + 1, 0, none⟩ (Value.slice A8 ((selK ar m x xs k).length + 1) cap8)) := Only.set _ _ rfl
      have OA := (Only.fut (Fut.alloc w6 (.cells #[.int .i64 (k : Int)] 3))).trans O8
      have OT : Only (fun j => s ≤ j ∨ j = w1.heap.size + 1) w6 (w8.setCell ⟨w1.heap.size + 1, 0, none⟩ (Value.slice A8 ((selK ar m x xs k).length + 1) cap8)) := (OA.mono (S' := fun j => s ≤ j ∨ j = w1.heap.size + 1) fun j _ hj => .inl (h2 j hj)).trans (OS.mono (S' := fun j => s ≤ j ∨ j = w1.heap.size + 1) fun j _ hj => .inr hj)
      have hst := OT.size
      refine ⟨⟨Nat.le_trans hM6.1 hst, fun j hj1 hj2 => ?_⟩, _, hO8.only (fun _ _ h => h) OS hne9, fun j hj => ?_, ?_, p4.then OT fun j hj hlt => ?_, fun hE => by rw [htk] at hE; simp at hE⟩
      · exact (OT.block j (by omega) (by omega)).trans (hM6.2 j hj1 hj2)
      · rcases hB9 j hj with h | h
        · exact h2 j h
        · omega
      · exact set_blk b8
      · rcases hj with h | h
        · omega
        · exact h
    · rw [if_neg he, List.append_nil] at htk
      rw [decide_eq_false he]
      gi_wp2
      exact ⟨hM6, ov, by rw [htk]; exact p1, h2, p3, p4, fun hE => h5 (by rw [← htk]; exact hE)⟩
  case hdone =>
    rintro s W hs ⟨ov, h1, h2, h3, h4, h5⟩ hK
    have c9 := cell_at h3 0 _ rfl
    have hst : selK ar m x xs (hiS xs (xs.length : Int) - loS 0) = selL ar m x xs := by rw [hN]; rfl
    rw [hst] at h1 h5
    go_wp2
    refine ⟨by simp, .inl ⟨_, _, rfl, run_takeDeferred hK, ?_⟩⟩
    have OP : Only (fun j => j = wl.heap.size) W (W.putObj wl.heap.size (.deferred none)) := Only.put _ _ rfl
    exact ⟨_, results_tmp rfl _ _ _, ov, rfl, h1.only (fun _ _ h => h) OP (fun j hj e => by have := h2 j hj; omega), (((Only.fut FL.out).trans (h4.mono (S' := fun j => w.heap.size ≤ j) fun j _ hj => by omega)).trans (OP.mono (S' := fun j => w.heap.size ≤ j) fun j _ hj => by omega)).toFut fun j hj => hj, h5⟩
  case hstop => exact fun _ _ _ _ h _ => h.elim
theorem select_core {w : World} {p : Option Addr} {ar m : Nat} {xs : List Rw} (hm : m < 2 ^ 32)
    (hA : ∀ W, Fut w W → Calls Tryz.prog 19 #[.pointer p] W fun e W' => e = .returned (.int .i64 ar) ∧ W' = W)
    (hL : ∀ W, Fut w W → Calls Tryz.prog 18 #[.pointer p] W fun e W' => e = .returned (.int .i64 xs.length) ∧ W' = W)
    (hIt : ∀ W lb, Fut w W → SeqAt W lb (.pointer p) 0 xs.length → IterAt Tryz.prog 70 lb (hiS xs xs.length - loS 0) (spanArgs xs 0) W)
    (hok : ∀ x ∈ xs, Rw.ok x) (hl : xs.length ≤ 1407374883512) (x : Rw) (hx : Rw.ok x) :
    Calls Tryz.prog 6 #[.pointer p, .int .u32 m, Rw.val x] w fun e w' => ∃ v, e = .returned v ∧ OwnL 1 w.heap.size 3 RI w' v (selL ar m x xs) ∧ Fut w w' :=
  (select_coreN hm hA hL hIt hok hl x hx).mono fun _ _ ⟨v, h1, h2, h3, _⟩ => ⟨v, h1, h2, h3⟩
end Go.Proofs.YtijdichfaofjaaaGreatDoor
/- Relation.Clone. -/
namespace Go.Proofs.YtijdichfaofjaaaGreatDoor
open Go.RowKit Go.WideMaps Go.Shelf
set_option linter.unusedSimpArgs false
set_option linter.unusedVariables false
attribute [local go_sem] Oper.semAt_some

set_option maxHeartbeats 1600000 in
set_option maxRecDepth 100000 in
theorem clone_le {B : Nat} {w : World} {b pb mb : Nat} {lv : Value} {ar gone : Nat} {xs : List Rw} (h : RelI B w b pb mb lv ar gone xs) (hl : xs.length ≤ 1407374883512) :
    Calls Tryz.prog 8 #[.pointer (some ⟨b, 0, none⟩)] w fun e w' => ∃ b' pb' mb' lv', e = .returned (.pointer (some ⟨b', 0, none⟩)) ∧ RelI w.heap.size w' b' pb' mb' lv' ar 0 xs ∧ Fut w w' := by
  have H := Lib.hid h
  have c0 := cell_at h.blk 0 _ rfl
  clear h
  refine (callsIn_wide (n := 3)).1 ?_
  refine callsIn_of_wp_marks Tryz.func8 rfl trivial ?_ rfl
  refine wpIn_wide.2 ?_
  simp only [Tryz.ntmps8, List.size_toArray, List.length_cons, List.length_nil, Nat.reduceAdd, Nat.reduceSub, Array.replicate_succ, Array.replicate_zero, List.push_toArray, List.append_toArray, List.nil_append, List.cons_append]
  go_wp2_with fail
  refine (there_any H.out).mono ?_
  rintro e w1 ⟨rfl, hw1⟩
  have hw2 := hw1.symm
  subst hw2
  go_wp2_with fail
  refine (new_any ar H.out.wide w).mono ?_
  rintro e w1 ⟨b', pb', mb', rfl, hR1, f1⟩
  have HR1 := Lib.hid hR1
  have F1 := Lib.hid f1
  clear hR1 f1
  go_wp2_with fail
  have fa := Fut.alloc w1 (.cells #[Value.pointer (some ⟨b', 0, none⟩)] 29)
  have cc := cell_at (heap_alloc_new w1 (.cells #[Value.pointer (some ⟨b', 0, none⟩)] 29)) 0 _ rfl
  obtain ⟨w2, hw2⟩ : ∃ W, w1.alloc (.cells #[Value.pointer (some ⟨b', 0, none⟩)] 29) = W := ⟨_, rfl⟩
  rw [hw2] at fa cc ⊢
  clear hw2
  refine (len_any (H.out.fut (F1.out.trans fa))).mono ?_
  rintro e w3 ⟨rfl, hw3⟩
  have hw3' := hw3.symm
  subst hw3'
  go_wp2_with fail
  refine (range_any _ _ _ w2).mono ?_
  rintro e wl ⟨lb, rfl, hsq, f2⟩
  have HS := Lib.hid hsq
  have FL := Lib.hid ((F1.out.trans fa).trans f2)
  have HRl := Lib.hid (HR1.out.fut (fa.trans f2))
  have cl := f2.cell cc
  have hcb : w1.heap.size < wl.heap.size := lt_of_cell cl
  have hcw : w.heap.size ≤ w1.heap.size := F1.out.size
  clear hsq fa f2 cc c0
  have hN : hiS xs (xs.length : Int) - loS 0 = xs.length := by simp [hiS, loS]
  have hI0 : ∀ k (hk : k < xs.length), spanArgs xs 0 k = #[.int .i64 (k : Int), Rw.val xs[k]] := fun k hk => by
    simp [spanArgs, loS, List.getD, hk]
  have HI0 := Lib.hid hI0
  clear hI0
  go_wp2_with fail
  refine wp_range (N := hiS xs (xs.length : Int) - loS 0) (args := spanArgs xs 0) rfl (enters_of Tryz.func70 (by kernel_rfl) rfl) (fun W hf => range_iter (H.out.fut (FL.out.trans hf)) (by omega) 0 _ lb (HS.out.fut hf)) (fun k hk => rfl)
    (fun s k W => (∃ lv, RelI w.heap.size W b' pb' mb' lv ar 0 (xs.take k) ∧ ∀ j, lv.ownBlock = some j → j < w1.heap.size ∨ s ≤ j) ∧ W.cell? ⟨w1.heap.size, 0, none⟩ = some (.pointer (some ⟨b', 0, none⟩)) ∧ Fut w W)
    (fun _ _ _ => False) ?hIf ?hI ?hIx ?h0 ?hbody ?hdone ?hstop
  case hIf => rintro s k W W' hf ⟨⟨lv, h1, h2⟩, h3, h4⟩; exact ⟨⟨lv, h1.fut hf, h2⟩, hf.cell h3, h4.trans hf⟩
  case hI =>
    rintro s k W l o hl1 hl2 hs ⟨⟨lv, h1, h2⟩, h3, h4⟩
    have OP : Only (fun j => j = l) W (W.putObj l o) := Only.put _ _ rfl
    have hlt := HR1.out.lt
    refine ⟨⟨lv, h1.only OP (fun j hf e => ?_), h2⟩, OP.cell h3 (by show w1.heap.size ≠ l; omega), ((Only.fut h4).trans (OP.mono (S' := fun j => w.heap.size ≤ j) fun j _ hj => by omega)).toFut fun j hj => hj⟩
    subst e
    rcases hf with h | h | h | h
    · have := hlt b' (.inl rfl); omega
    · have := hlt pb' (.inr (.inl rfl)); omega
    · have := hlt mb' (.inr (.inr (.inl rfl))); omega
    · have := h2 _ h; omega
  case hIx => exact fun _ _ _ _ _ _ _ _ h => h
  case h0 =>
    intro w4 hf hs
    exact ⟨⟨_, by rw [List.take_zero]; exact HRl.out.fut hf, fun j hj => by cases hj⟩, hf.cell cl, FL.out.trans hf⟩
  case hbody =>
    rintro l s k W hl1 hl2 hs hsW hk ⟨⟨lv, h1, h2⟩, h3, h4⟩ hrec
    have hkx : k < xs.length := by omega
    rw [HI0.out k hkx]
    have hyo := rows_ok H.out.pl.list.rep _ (List.getElem_mem hkx)
    have htk : xs.take (k + 1) = xs.take k ++ [xs[k]] := List.take_succ_eq_append_getElem hkx
    have hnm : xs[k] ∉ xs.take k := fun hm => by
      obtain ⟨j, hj, he⟩ := List.getElem_of_mem hm
      rw [List.length_take] at hj
      rw [List.getElem_take] at he
      have := (List.getElem_inj H.out.pl.nodup).1 he
      omega
    generalize xs[k] = y at hyo htk hnm
    obtain ⟨rr, hrr⟩ := hrec
    gi_wp2_with (first | (refine wpListIn_store_new (round_fn l) rowTy (wanted_none rfl _) _ _ rfl rfl rfl rfl hyo ?_))
    refine ⟨Mid.of_fut (Fut.alloc _ _) hsW, fun o => ?_⟩
    have OP : Only (fun j => j = l) W ((W.alloc (.cells (Rw.cells y).toArray 27)).putObj l o) := (Only.fut (Fut.alloc _ _)).trans (Only.put _ _ rfl)
    have hr5 : RowAt ((W.alloc (.cells (Rw.cells y).toArray 27)).putObj l o) W.heap.size 0 y := (RowAt.new W 27 hyo).only (Only.put (S := fun j => j = l) l o rfl) (by omega)
    have hsP : W.heap.size < ((W.alloc (.cells (Rw.cells y).toArray 27)).putObj l o).heap.size := by rw [World.putObj_size]; simp
    obtain ⟨Wp, hWp⟩ : ∃ x, (W.alloc (.cells (Rw.cells y).toArray 27)).putObj l o = x := ⟨_, rfl⟩
    rw [hWp] at OP hr5 hsP ⊢
    clear hWp
    have hlt := HR1.out.lt
    have hfo : ∀ j, foot b' pb' mb' lv j → j < w1.heap.size ∨ s ≤ j := fun j hf => by
      rcases hf with h | h | h | h
      · have := hlt b' (.inl rfl); omega
      · have := hlt pb' (.inr (.inl rfl)); omega
      · have := hlt mb' (.inr (.inr (.inl rfl))); omega
      · exact h2 _ h
    have hRp := h1.only OP (fun j hf e => by subst e; have := hfo _ hf; omega)
    have hcp := OP.cell h3 (by show w1.heap.size ≠ l; omega)
    have hFp := ((Only.fut h4).trans (OP.mono (S' := fun j => w.heap.size ≤ j) fun j _ hj => by omega)).toFut fun j hj => hj
    have k2 := cell_at hRp.blk 2 _ rfl
    gi_wp2_with fail
    refine wpIn_graph 5 [.d, .d, .d, .d, .d] (by kernel_rfl) (by kernel_rfl) (by kernel_rfl) (by kernel_rfl) ?_
    simp only [List.take_succ_cons, List.take_zero, List.drop_succ_cons, List.drop_zero, Exs]
    iterate 5 apply Exists.intro
    apply Run.valG (wanted_none rfl _)
    · intro w1 h1 hk
      have q0 := h1.cell hcp; have q1 := h1.cell k2; have hg := (Fut.drew _).trans h1
      have hcw := fun b o => Below.cell (p := ⟨b, o, none⟩) h1
      go_simp; rfl
    simp only [Act.put, List.setIfInBounds_toArray, List.set_cons_succ, List.set_cons_zero, List.nil_append, List.cons_append]
    apply Run.valG (wanted_none rfl _)
    · intro w1 h1 hk
      have q0 := h1.cell hcp; have q1 := h1.cell k2; have hg := (Fut.drew _).trans h1
      have hcw := fun b o => Below.cell (p := ⟨b, o, none⟩) h1
      go_simp; rfl
    simp only [Act.put, List.setIfInBounds_toArray, List.set_cons_succ, List.set_cons_zero, List.nil_append, List.cons_append]
    apply Run.valG (wanted_none rfl _)
    · intro w1 h1 hk
      have q0 := h1.cell hcp; have q1 := h1.cell k2; have hg := (Fut.drew _).trans h1
      have hcw := fun b o => Below.cell (p := ⟨b, o, none⟩) h1
      go_simp; rfl
    simp only [Act.put, List.setIfInBounds_toArray, List.set_cons_succ, List.set_cons_zero, List.nil_append, List.cons_append]
    apply Run.valG (wanted_none rfl _)
    · intro w1 h1 hk
      have q0 := h1.cell hcp; have q1 := h1.cell k2; have hg := (Fut.drew _).trans h1
      have hcw := fun b o => Below.cell (p := ⟨b, o, none⟩) h1
      go_simp; rfl
    simp only [Act.put, List.setIfInBounds_toArray, List.set_cons_succ, List.set_cons_zero, List.nil_append, List.cons_append]
    apply Run.valG (wanted_none rfl _)
    · intro w1 h1 hk
      have q0 := h1.cell hcp; have q1 := h1.cell k2; have hg := (Fut.drew _).trans h1
      have hcw := fun b o => Below.cell (p := ⟨b, o, none⟩) h1
      exact exec_load_R rowTy _ rfl rfl (hr5.fut hg)
    simp only [Act.put, List.setIfInBounds_toArray, List.set_cons_succ, List.set_cons_zero, List.nil_append, List.cons_append]
    apply Run.done
    intro w6 h6 hk
    clear hk
    have F6 := (Fut.drew _).trans h6
    have hR6 := hRp.fut F6
    have hw6 : w.heap.size ≤ w6.heap.size := Nat.le_trans hFp.size F6.size
    have hs6 : s ≤ w6.heap.size := by have := F6.size; omega
    gi_wp2_with fail
    refine ⟨trivial, (CallsIn.inRound l (callsIn_wide.2 (put_any hR6.pl hw6 y hyo (by simp; omega)))).mono ?_⟩
    rintro e w7 ⟨lv7, rfl, hP7, hO7, hV7⟩
    rw [if_neg hnm, ← htk] at hP7
    gi_wp2
    refine ⟨⟨Nat.le_trans F6.size hO7.size, fun j hj1 hj2 => ?_⟩, ⟨lv7, ⟨hO7.keeps hR6.blk (fun h => hR6.sep _ h rfl), hP7, hR6.base, hR6.wide⟩, fun j hj => ?_⟩, hO7.cell (F6.cell hcp) ?_, ((Only.fut (hFp.trans F6)).trans (hO7.mono (S' := fun j => w.heap.size ≤ j) fun j _ hj => hR6.pl.ge j hj)).toFut fun j hj => hj⟩
    · rw [hO7.block j (by omega) (fun h => by have := hfo j (.inr h); omega), Below.block F6 j (by omega)]
    · rcases hV7 j hj with h | h
      · exact hfo j (.inr h)
      · exact .inr (by omega)
    · intro h
      have := hfo w1.heap.size (.inr h)
      omega
  case hdone =>
    rintro s W hs ⟨⟨lv, h1, h2⟩, h3, h4⟩ hK
    rw [hN, List.take_length] at h1
    go_wp2
    refine ⟨by simp, .inl ⟨_, _, rfl, run_takeDeferred hK, ?_⟩⟩
    have OP : Only (fun j => j = wl.heap.size) W (W.putObj wl.heap.size (.deferred none)) := Only.put _ _ rfl
    have hlt := HR1.out.lt
    have hRe := h1.only OP (fun j hf e => by
      subst e
      rcases hf with h | h | h | h
      · have := hlt b' (.inl rfl); omega
      · have := hlt pb' (.inr (.inl rfl)); omega
      · have := hlt mb' (.inr (.inr (.inl rfl))); omega
      · have := h2 _ h; omega)
    have hFe := ((Only.fut h4).trans (OP.mono (S' := fun j => w.heap.size ≤ j) fun j _ hj => by omega)).toFut fun j hj => hj
    exact ⟨_, results_tmp rfl _ _ _, b', pb', mb', lv, rfl, hRe, hFe⟩
  case hstop => exact fun _ _ _ _ h _ => h.elim
theorem clone_any {B : Nat} {w : World} {b pb mb : Nat} {lv : Value} {ar gone : Nat} {xs : List Rw} (h : RelI B w b pb mb lv ar gone xs) (hl : xs.length < 1407374883512) :
    Calls Tryz.prog 8 #[.pointer (some ⟨b, 0, none⟩)] w fun e w' => ∃ b' pb' mb' lv', e = .returned (.pointer (some ⟨b', 0, none⟩)) ∧ RelI w.heap.size w' b' pb' mb' lv' ar 0 xs ∧ Fut w w' := clone_le h (Nat.le_of_lt hl)
end Go.Proofs.YtijdichfaofjaaaGreatDoor
