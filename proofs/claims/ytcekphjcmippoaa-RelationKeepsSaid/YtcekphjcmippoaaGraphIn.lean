/- A region that draws its order, within a round: by its graph. No program. -/
import Derived.Test.YtcekphjcmippoaaGraph0
import Derived.Test.YtcekphjcmippoaaRowIn
import Derived.OrdersIn
namespace Go.Proofs.Ytcekphjcmippoaa
open Go.RowKit
set_option linter.unusedSimpArgs false
set_option linter.unusedVariables false

def noDeferB (ops : Array Oper) : Bool := ops.all fun o => match o.op with | .defer _ => false | _ => true

theorem wpAnyIn_of_seq {r m : Nat} {P : Program} {ops : Array Oper} {md : Region.Mode} {Q' : Exit → Act → World → Prop} : ∀ (l : List Oper) (k : Nat) (listed : Array Bool) (a : Act) (w : World), (∀ j, l[j]? = ops[k + j]?) →
    Region.seqB md ops l.length k listed = true → wpListIn (Fence.wide.inRound r) m P ops Q' l a w → wpAnyIn (Fence.wide.inRound r) m P md ops Q' l.length listed a w
  | [], _, _, _, _, _, hB, h => ⟨by simpa [Region.seqB] using hB, h⟩
  | o :: l, k, listed, a, w, hl, hB, h => by
    have h0 : ops[k]? = some o := by simpa using (hl 0).symm
    simp only [List.length_cons, Region.seqB, Bool.and_eq_true, decide_eq_true_eq] at hB
    refine ⟨fun h1 => (by rw [hB.1] at h1; cases h1), fun i hi => ?_⟩
    rw [hB.1] at hi
    have hik : i = k := by simpa using hi
    subst hik
    have hw : wpOpIn (Fence.wide.inRound r) m P ops Q' i (wpListIn (Fence.wide.inRound r) m P ops Q' l) a w := by unfold wpOpIn; simp only [h0]; exact h
    exact wpOpIn_mono (fun a' w' h' => wpAnyIn_of_seq l (i + 1) _ a' w' (fun j => by have := hl (j + 1); simpa [Nat.add_assoc, Nat.add_comm 1 j] using this) hB.2 h') hw

section
variable {P : Program} {ops : Array Oper} {n : Nat} {sp : Nat → Sp} {a0 : Act} {w0 : World} {vs : Nat → Value} {listed : Array Bool} {a : Act} {w : World}

theorem GInv.stepIn {l : Nat} {m : Nat} {full : List (Option Tmp × Sp)} {i : Nat} {Q : Exit → Act → World → Prop} {K : Act → World → Prop} (inv : GInv ops n sp a0 w0 vs listed a w) (hB : graphB ops n = true) (hnD : noDeferB ops = true)
    (hbd : ∀ k d, dstAt ops k = some d → k < n → d < a0.tmps.size)
    (hsp : ∀ k, k < n → full[k]? = some (dstAt ops k, sp k)) (_hfl : full.length = n) (hmono : ∀ k, k < n → (sp k).mono)
    (hob : ∀ o, ops[i]? = some o → ∀ w, Fut w0 w → lexAct o w (fun a => givesG P ops o a (sp i) w) 0 (full.take i) a0)
    (hi : i ∈ Region.ready .any ops listed) (hin : i < n)
    (hK : ∀ v a' w', GInv ops n sp a0 w0 (fun k => if k = i then v else vs k) (listed.setIfInBounds i true) a' w' → K a' w') : wpOpIn (Fence.wide.inRound l) m P ops Q i K a w := by
  obtain ⟨hsel, hns, hg⟩ := graphB_spec hB
  obtain ⟨hun, o, ho, hall⟩ := mem_ready.1 hi
  obtain ⟨o', ho', hedge, hdist, hlook⟩ := hg i hin
  obtain rfl : o = o' := Option.some.inj (ho.symm.trans ho')
  have hunf : listed.getD i false = false := getD_both hun
  have hdep : ∀ k, dep o k = true → listed.getD k false = true := fun k hk => by
    obtain ⟨e, he, hb, rfl⟩ := dep_spec hk
    exact hall e he hb
  have hlex := lexAct_inst vs _ 0 a0 (hob o ho w inv.fut) fun j d S hj hd => by
    rw [Nat.zero_add] at hd ⊢
    rw [List.getElem?_take] at hj
    split at hj
    · rename_i hji
      have h1 := hsp j (by omega)
      rw [hj] at h1
      simp only [Option.some.injEq, Prod.mk.injEq] at h1
      have := inv.held j (by omega) (hdep j hd)
      rw [← h1.2] at this
      exact this
    · cases hj
  have hslot : ∀ t ∈ o.looksAt ops, a.tmps[t]? = (putAll vs 0 (full.take i) a0).tmps[t]? := fun t ht => by
    by_cases hex : ∃ k, k < i ∧ dstAt ops k = some t
    · obtain ⟨k, hki, hkd⟩ := hex
      have hkn : k < n := by omega
      have hkl := hdep k ((hlook t ht k hkn hkd).1 hki)
      have h1 : (full.take i)[k]? = some (some t, sp k) := by rw [List.getElem?_take, if_pos hki, hsp k hkn, hkd]
      rw [inv.slot k t hkn hkl hkd, putAll_at vs t _ 0 a0 k (sp k) (hbd k t hkd hkn) h1, Nat.zero_add]
      · have h2 := inv.held k hkn hkl
        cases hs : sp k with
        | det c => rw [hs] at h2; simp only [Sp.holds] at h2; rw [h2]; rfl
        | rel S => rfl
      · intro j d s' hj hd
        rw [List.getElem?_take] at hj
        split at hj
        · rename_i hji
          rw [hsp j (by omega)] at hj
          simp only [Option.some.injEq, Prod.mk.injEq] at hj
          have hjd : dstAt ops j = some t := hj.1.trans hd
          rcases Nat.lt_trichotomy j k with h' | h' | h'
          · obtain ⟨ok, hok, _, hd2, _⟩ := hg k hkn
            exact absurd hjd (hd2 t (by simpa [dstAt, hok] using hkd) j h')
          · exact h'
          · obtain ⟨oj, hoj, _, hd2, _⟩ := hg j (by omega)
            exact absurd hkd (hd2 t (by simpa [dstAt, hoj] using hjd) k h')
        · cases hj
    · rw [putAll_other]
      · refine inv.free t fun k hkn hkl hkd => ?_
        rcases Nat.lt_trichotomy k i with h' | h' | h'
        · exact hex ⟨k, h', hkd⟩
        · subst h'; rw [hunf] at hkl; cases hkl
        · obtain ⟨ok, hok, hdk⟩ := (hlook t ht k hkn hkd).2 h'
          obtain ⟨e, he, hb, hei⟩ := dep_spec hdk
          have := inv.closed k ok hok hkl e he hb
          rw [hei, hunf] at this
          cases this
      · intro d s hm hd
        obtain ⟨j, hj⟩ := List.getElem?_of_mem hm
        rw [List.getElem?_take] at hj
        split at hj
        · rename_i hji
          rw [hsp j (by omega)] at hj
          simp only [Option.some.injEq, Prod.mk.injEq] at hj
          exact hex ⟨j, hji, hj.1.trans hd⟩
        · cases hj
  have hexec : execOp a.eval o = execOp (putAll vs 0 (full.take i) a0).eval o := execOp_congr o (fun cs b => Region.noSelect_spec hsel i o cs b ho) fun x hx => by
    cases x with
    | tmp t =>
      have := hslot t (List.mem_append_left _ (List.mem_filterMap.2 ⟨.tmp t, by simpa using hx, rfl⟩))
      simp only [Act.eval, Array.getD_eq_getD_getElem?, this]
    | _ => rfl
  have hwant : Region.wanted o (yielded ops a.tmps) = Region.wanted o (yielded ops (putAll vs 0 (full.take i) a0).tmps) := by
    unfold Region.wanted
    cases hgd : o.guard with
    | none => rfl
    | some gw =>
      obtain ⟨g, want⟩ := gw
      have hy : yielded ops a.tmps g = yielded ops (putAll vs 0 (full.take i) a0).tmps g := by
        unfold yielded
        cases ht : (ops[g]?).bind (·.dst) with
        | none => rfl
        | some t =>
          have := hslot t (by simp [Oper.looksAt, hgd, ht])
          simp only [Option.bind_some, this]
      simp only [hy]
  have hdi : dstAt ops i = o.dst := by simp [dstAt, ho]
  -- the invariant behind it
  have hnew : ∀ v w', Fut w w' → (sp i).holds v w' → GInv ops n sp a0 w0 (fun k => if k = i then v else vs k) (listed.setIfInBounds i true) (a.put o.dst v) w' := fun v w' hf hv => by
    have hil : i < listed.size := by rw [inv.lsize]; omega
    have hset : ∀ k, k ≠ i → (listed.setIfInBounds i true).getD k false = listed.getD k false := fun k hk => getD_set_ne false (Ne.symm hk)
    refine ⟨by rw [put_size]; exact inv.size, by rw [put_defers']; exact inv.defers, inv.fut.trans hf, fun t ht => ?_, fun k hk hl => ?_, fun k d hk hl hd => ?_, by simp [inv.lsize], fun j oj hj hl e he hb => ?_, fun t ht ht' => by rw [getD_set_ne true (by omega)]; exact inv.tail t ht ht'⟩
    · have hit : o.dst ≠ some t := by rw [← hdi]; exact ht i hin (by simp [hil])
      rw [put_other _ _ _ _ hit]
      refine inv.free t fun k hk hl => ht k hk ?_
      by_cases hki : k = i
      · subst hki; simp [hil]
      · rw [hset k hki]; exact hl
    · by_cases hki : k = i
      · subst hki; simpa using hv
      · simp only [hki, if_false]
        rw [hset k hki] at hl
        exact Sp.holds_mono (hmono k hk) hf (inv.held k hk hl)
    · by_cases hki : k = i
      · subst hki
        have hod : o.dst = some d := by rw [← hdi]; exact hd
        rw [hod]
        show _ = some (if k = k then v else vs k)
        rw [if_pos rfl]
        exact put_same _ _ _ (by rw [inv.size]; exact hbd k d hd hk)
      · simp only [hki, if_false]
        rw [hset k hki] at hl
        rw [put_other]
        · exact inv.slot k d hk hl hd
        · intro hod
          have hid : dstAt ops i = some d := hdi.trans hod
          rcases Nat.lt_or_ge k i with h' | h'
          · exact hdist d hod k h' hd
          · obtain ⟨ok, hok, _, hd2, _⟩ := hg k hk
            exact hd2 d (by simpa [dstAt, hok] using hd) i (by omega) hid
    · by_cases hij : i = j
      · subst hij
        have : oj = o := Option.some.inj (hj.symm.trans ho)
        subst this
        exact getD_set_true (hall e he hb)
      · rw [getD_set_ne false hij] at hl
        exact getD_set_true (inv.closed j oj hj hl e he hb)
  have hnd : ∀ c, o.op ≠ .defer c := fun c hc => by
    have h1 := Array.all_eq_true_iff_forall_mem.1 hnD o (Array.mem_of_getElem? ho)
    rw [hc] at h1; cases h1
  unfold wpOpIn
  simp only [ho]
  unfold givesG at hlex
  rw [← hwant] at hlex
  split
  · rename_i hw
    rw [if_pos hw] at hlex
    unfold gives at hlex
    rw [← hexec] at hlex
    unfold Oper.wpIn
    refine ⟨fun f _ => trivial, ?_⟩
    rw [semAt_plain hnd]
    generalize (execOp a.eval o).run P w = r at hlex ⊢
    cases r with
    | ok nx w' =>
      cases nx <;> simp only [givesUpon] at hlex <;> simp only [Oper.uponIn]
      case value u => exact hK u _ _ (hnew u w' hlex.1 hlex.2)
      case skip => exact hK undef _ _ (hnew undef w' hlex.1 hlex.2)
      case enter f args =>
        refine ⟨fun h => by simp [Fence.inRound, Fence.wide] at h, CallsIn.inRound l (callsIn_wide.2 (Calls.mono hlex fun e w'' he => ?_))⟩
        obtain ⟨v, rfl, hf, hv⟩ := he
        exact hK v _ _ (hnew v w'' hf hv)
    | halt x w' => simp only [givesUpon] at hlex
  · rename_i hw
    rw [if_neg hw] at hlex
    exact ⟨fun f _ => trivial, hK undef _ _ (hnew undef w (Fut.refl w) hlex)⟩
end

theorem wpIn_region_graph {r m : Nat} {P : Program} {id : Nat} {Q : Exit → Act → World → Prop} {a0 : Act} {w : World} {l : List Oper} (n : Nat) (hm : P.follows .mixedOrders = true)
    (hB : (graphB l.toArray n && tailB l.toArray n) = true) (hnD : noDeferB l.toArray = true) (hsz : ((List.range n).all fun k => match dstAt l.toArray k with | some d => decide (d < a0.tmps.size) | none => true) = true)
    (h : Obl P l.toArray w.drew a0 (wpListIn (Fence.wide.inRound r) m P l.toArray Q (l.drop n)) (l.take n) []) : (Code.region id l.toArray true).wpIn (Fence.wide.inRound r) m P Q a0 w := by
  simp only [Bool.and_eq_true, tailB] at hB
  obtain ⟨hG, hS, hseq⟩ := hB
  obtain ⟨hsel, hns, hg⟩ := graphB_spec hG
  have hnl : n ≤ l.length := by simpa using hns
  have hbd : ∀ k d, dstAt l.toArray k = some d → k < n → d < a0.tmps.size := fun k d hd hk => by
    have := List.all_eq_true.1 hsz k (List.mem_range.2 hk)
    simpa [hd] using this
  obtain ⟨full, hfl, _, hob, hfin⟩ := Obl_split _ _ h
  simp only [List.length_nil, Nat.zero_add] at hfl hob
  have htl : (l.take n).length = n := by simp; omega
  rw [htl] at hfl
  -- the specifications
  obtain ⟨sp, hsp⟩ : ∃ sp : Nat → Sp, ∀ k, sp k = ((full[k]?).map (·.2)).getD (.det undef) := ⟨_, fun _ => rfl⟩
  have hfull : ∀ k, k < n → ∃ o, l[k]? = some o ∧ full[k]? = some (dstAt l.toArray k, sp k) ∧ (sp k).mono ∧
      ∀ w', Fut w.drew w' → lexAct o w' (fun a => givesG P l.toArray o a (sp k) w') 0 (full.take k) a0 := fun k hk => by
    have hlk : l[k]? = some (l[k]'(by omega)) := List.getElem?_eq_getElem (by omega)
    obtain ⟨s, hs, hmono, hlex⟩ := hob k _ (by rw [List.getElem?_take, if_pos hk]; exact hlk)
    have hspk : sp k = s := by rw [hsp, hs]; rfl
    refine ⟨_, hlk, ?_, by rw [hspk]; exact hmono, by rw [hspk]; exact hlex⟩
    rw [hs, hspk]
    simp [dstAt, hlk]
  refine wpIn_region_any hm ?_
  have main : ∀ (f : Nat) (listed : Array Bool) (a : Act) (w' : World) (vs : Nat → Value), GInv l.toArray n sp a0 w.drew vs listed a w' → unl listed n = f →
      wpAnyIn (Fence.wide.inRound r) m P .any l.toArray Q (f + (l.length - n)) listed a w' := by
    intro f
    induction f with
    | zero =>
      intro listed a w' vs inv hf
      rw [Nat.zero_add]
      have hlisted : listed = headDone n l.length := by
        refine Array.ext_getElem? fun t => ?_
        by_cases ht : t < l.length
        · have hts : t < listed.size := by rw [inv.lsize]; simpa using ht
          have h2 : (headDone n l.length)[t]? = some (decide (t < n)) := by simp [headDone, ht]
          rw [h2, Array.getElem?_eq_getElem hts]
          by_cases htn : t < n
          · have := unl_zero n hf t htn
            simp [hts] at this
            simp [htn, this]
          · have := inv.tail t (by omega) (by simpa using ht)
            simp [hts] at this
            simp [htn, this]
        · rw [Array.getElem?_eq_none (by rw [inv.lsize]; simp; omega), Array.getElem?_eq_none (by simp [headDone]; omega)]
      have hlast := lexFin_inst (K := fun a => wpListIn (Fence.wide.inRound r) m P l.toArray Q (l.drop n) a w') vs full 0 a0 (hfin w' inv.fut) fun j d S hj => by
        rw [Nat.zero_add]
        have hjn : j < n := by rw [← hfl]; exact (List.getElem?_eq_some_iff.1 hj).1
        obtain ⟨_, _, h1, _, _⟩ := hfull j hjn
        rw [hj] at h1
        simp only [Option.some.injEq, Prod.mk.injEq] at h1
        have := inv.held j hjn (unl_zero n hf j hjn)
        rw [← h1.2] at this
        exact this
      have hact : a = putAll vs 0 full a0 := by
        refine act_ext (fun t => ?_) ?_
        · by_cases hex : ∃ k, k < n ∧ dstAt l.toArray k = some t
          · obtain ⟨k, hk, hkd⟩ := hex
            obtain ⟨_, _, h1, _, _⟩ := hfull k hk
            rw [hkd] at h1
            rw [inv.slot k t hk (unl_zero n hf k hk) hkd, putAll_at vs t full 0 a0 k (sp k) (hbd k t hkd hk) h1, Nat.zero_add]
            · have h2 := inv.held k hk (unl_zero n hf k hk)
              cases hs : sp k with
              | det c => rw [hs] at h2; simp only [Sp.holds] at h2; rw [h2]; rfl
              | rel S => rfl
            · intro j d s' hj hd
              have hjn : j < n := by rw [← hfl]; exact (List.getElem?_eq_some_iff.1 hj).1
              obtain ⟨_, _, h3, _, _⟩ := hfull j hjn
              rw [hj] at h3
              simp only [Option.some.injEq, Prod.mk.injEq] at h3
              have hjd : dstAt l.toArray j = some t := h3.1.symm.trans hd
              rcases Nat.lt_trichotomy j k with h' | h' | h'
              · obtain ⟨ok, hok, _, hd2, _⟩ := hg k hk
                exact absurd hjd (hd2 t (by simpa [dstAt, hok] using hkd) j h')
              · exact h'
              · obtain ⟨oj, hoj, _, hd2, _⟩ := hg j hjn
                exact absurd hkd (hd2 t (by simpa [dstAt, hoj] using hjd) k h')
          · rw [inv.free t fun k hk _ hd => hex ⟨k, hk, hd⟩, putAll_other]
            intro d s hmem hd
            obtain ⟨j, hj⟩ := List.getElem?_of_mem hmem
            have hjn : j < n := by rw [← hfl]; exact (List.getElem?_eq_some_iff.1 hj).1
            obtain ⟨_, _, h3, _, _⟩ := hfull j hjn
            rw [hj] at h3
            simp only [Option.some.injEq, Prod.mk.injEq] at h3
            exact hex ⟨j, hjn, h3.1.symm.trans hd⟩
        · rw [inv.defers]
          have : ∀ (acc : List (Option Tmp × Sp)) (k : Nat) (b : Act), (putAll vs k acc b).defers = b.defers := by
            intro acc
            induction acc with
            | nil => intro k b; rfl
            | cons x r ih =>
              intro k b
              obtain ⟨d, s⟩ := x
              cases s <;> simp only [putAll] <;> rw [ih, put_defers']
          rw [this]
      rw [← hact] at hlast
      have := wpAnyIn_of_seq (r := r) (m := m) (md := .any) (P := P) (Q' := Q) (l.drop n) n listed a w' (fun j => by simp [List.getElem?_drop])
        (by rw [hlisted, List.length_drop]; simpa using hseq) hlast
      rwa [List.length_drop] at this
    | succ f ih =>
      intro listed a w' vs inv hf
      obtain ⟨i0, hi0, hi1, hi2⟩ := unl_some n (by rw [hf]; omega)
      have hils : ∀ i, i < n → i < listed.size := fun i hi => by rw [inv.lsize]; simp; omega
      have hready : i0 ∈ Region.ready .any l.toArray listed := by
        obtain ⟨o, ho, hedge, _⟩ := hg i0 hi0
        exact mem_ready.2 ⟨getD_in (hils i0 hi0) hi1, o, ho, fun e he hb => hi2 _ (hedge e he hb)⟩
      rw [show f + 1 + (l.length - n) = (f + (l.length - n)) + 1 by omega]
      refine ⟨fun h0 => (by rw [h0] at hready; cases hready), fun i hi => ?_⟩
      have hin : i < n := by
        rcases Nat.lt_or_ge i n with h' | h'
        · exact h'
        · exfalso
          have hisz : i < l.toArray.size := by
            obtain ⟨_, o, ho, _⟩ := mem_ready.1 hi
            exact (Array.getElem?_eq_some_iff.1 ho).1
          simp only [sinkB, Bool.or_eq_true, decide_eq_true_eq, Bool.and_eq_true] at hS
          rcases hS with hS | ⟨hs, hc⟩
          · omega
          · exact tail_waits hs hc (by omega) ⟨inv.lsize, inv.closed, inv.tail⟩ _ i0 rfl hi0 (getD_in (hils i0 hi0) hi1) i h' hi
      refine inv.stepIn (l := r) (m := m) (full := full) (Q := Q) hG hnD hbd (fun k hk => (by obtain ⟨_, _, h1, _, _⟩ := hfull k hk; exact h1)) hfl (fun k hk => (by obtain ⟨_, _, _, h1, _⟩ := hfull k hk; exact h1))
        (fun o ho => (by
          obtain ⟨o', ho', _, _, h1⟩ := hfull i hin
          have : o = o' := Option.some.inj ((by simpa using ho.symm : some o = l[i]?).trans ho')
          subst this
          exact h1)) hi hin fun v a' w'' inv' => ih _ a' w'' _ inv' ?_
      have hun := getD_both (mem_ready.1 hi).1
      have := unl_set hun (hils i hin) n hin
      omega
  have := main n (Array.replicate l.toArray.size false) a0 w.drew (fun _ => undef)
    ⟨rfl, rfl, Fut.refl _, fun _ _ => rfl, fun k _ hl => (by rw [getD_replicate_false] at hl; cases hl), fun k _ _ hl => (by rw [getD_replicate_false] at hl; cases hl), by simp,
      fun j oj _ hl => (by rw [getD_replicate_false] at hl; cases hl), fun t _ ht => getD_in (by simpa using ht) (getD_replicate_false _ _)⟩ (unl_none _ _)
  rwa [show n + (l.length - n) = l.toArray.size by simp; omega] at this

theorem wpIn_graph {r m : Nat} {P : Program} {id : Nat} {Q : Exit → Act → World → Prop} {a0 : Act} {w : World} {l : List Oper} (n : Nat) (shape : List Sh) (hm : P.follows .mixedOrders = true)
    (hB : (graphB l.toArray n && tailB l.toArray n) = true) (hnD : noDeferB l.toArray = true) (hsz : ((List.range n).all fun k => match dstAt l.toArray k with | some d => decide (d < a0.tmps.size) | none => true) = true)
    (h : Exs (fun sps => Run P l.toArray w.drew (wpListIn (Fence.wide.inRound r) m P l.toArray Q (l.drop n)) 0 (l.take n) sps a0 []) shape) : (Code.region id l.toArray true).wpIn (Fence.wide.inRound r) m P Q a0 w := by
  obtain ⟨sps, hs⟩ := Exs_some shape h
  exact wpIn_region_graph n hm hB hnD hsz (Obl_of_run _ sps [] fun _ => hs)
end Go.Proofs.Ytcekphjcmippoaa
