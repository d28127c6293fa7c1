/- GraphV, RelM, SortL, SortW, OrdL -/
import Derived.Sort.Statements
import Derived.Shelf.SlSortCmp.NoneTotal
import Derived.Test.YtijdichfaofjaaaGreatDoorC14
/-
  The rule of XGraph where what is known of a value may tell of the values for which its operation waited. Printed by gongv.py.
-/
namespace Go.Proofs.YtijdichfaofjaaaGreatDoor.GV
open Go.RowKit
set_option linter.unusedSimpArgs false
set_option linter.unusedVariables false

def fullV (l : List Oper) (n : Nat) (spv : (Nat → Value) → Nat → Sp) (vs : Nat → Value) : List (Option Tmp × Sp) := (List.range n).map fun k => (dstAt l.toArray k, spv vs k)
section
variable {P : Program} {ops : Array Oper} {n : Nat} {sp : Nat → Sp} {a0 : Act} {w0 : World} {vs : Nat → Value} {listed : Array Bool} {a : Act} {w : World}

theorem stepV {full : List (Option Tmp × Sp)} {i : Nat} {Q : Exit → Act → World → Prop} {K : Act → World → Prop} (inv : GInv ops n sp a0 w0 vs listed a w) (hB : graphB ops n = true)
    (hbd : ∀ k d, dstAt ops k = some d → k < n → d < a0.tmps.size)
    (hsp : ∀ k, k < n → full[k]? = some (dstAt ops k, sp k)) (_hfl : full.length = n) (hmono : ∀ k, k < n → (sp k).mono)
    (hob : ∀ o, ops[i]? = some o → (∀ j d S, (full.take i)[j]? = some (d, Sp.rel S) → dep o j = true → S (vs j) w) → givesG P ops o (putAll vs 0 (full.take i) a0) (sp i) w)
    (hi : i ∈ Region.ready .any ops listed) (hin : i < n)
    (hK : ∀ v a' w', GInv ops n sp a0 w0 (fun k => if k = i then v else vs k) (listed.setIfInBounds i true) a' w' → K a' w') : wpOp P ops Q i K a w := by
  obtain ⟨hsel, hns, hg⟩ := graphB_spec hB
  obtain ⟨hun, o, ho, hall⟩ := mem_ready.1 hi
  obtain ⟨o', ho', hedge, hdist, hlook⟩ := hg i hin
  obtain rfl : o = o' := Option.some.inj (ho.symm.trans ho')
  have hunf : listed.getD i false = false := getD_both hun
  have hdep : ∀ k, dep o k = true → listed.getD k false = true := fun k hk => by
    obtain ⟨e, he, hb, rfl⟩ := dep_spec hk
    exact hall e he hb
  have hlex := hob o ho fun j d S hj hd => by
    rw [List.getElem?_take] at hj
    split at hj
    · rename_i hji
      have h1 := hsp j (by omega)
      rw [hj] at h1
      simp only [Option.some.injEq, Prod.mk.injEq] at h1
      have := inv.held j (by omega) (hdep j hd)
      rw [← h1.2] at this
      exact this
    · cases hj
  have hslot : ∀ t ∈ o.looksAt ops, a.tmps[t]? = (putAll vs 0 (full.take i) a0).tmps[t]? := fun t ht => by
    by_cases hex : ∃ k, k < i ∧ dstAt ops k = some t
    · obtain ⟨k, hki, hkd⟩ := hex
      have hkn : k < n := by omega
      have hkl := hdep k ((hlook t ht k hkn hkd).1 hki)
      have h1 : (full.take i)[k]? = some (some t, sp k) := by rw [List.getElem?_take, if_pos hki, hsp k hkn, hkd]
      rw [inv.slot k t hkn hkl hkd, putAll_at vs t _ 0 a0 k (sp k) (hbd k t hkd hkn) h1, Nat.zero_add]
      · have h2 := inv.held k hkn hkl
        cases hs : sp k with
        | det c => rw [hs] at h2; simp only [Sp.holds] at h2; rw [h2]; rfl
        | rel S => rfl
      · intro j d s' hj hd
        rw [List.getElem?_take] at hj
        split at hj
        · rename_i hji
          rw [hsp j (by omega)] at hj
          simp only [Option.some.injEq, Prod.mk.injEq] at hj
          have hjd : dstAt ops j = some t := hj.1.trans hd
          rcases Nat.lt_trichotomy j k with h' | h' | h'
          · obtain ⟨ok, hok, _, hd2, _⟩ := hg k hkn
            exact absurd hjd (hd2 t (by simpa [dstAt, hok] using hkd) j h')
          · exact h'
          · obtain ⟨oj, hoj, _, hd2, _⟩ := hg j (by omega)
            exact absurd hkd (hd2 t (by simpa [dstAt, hoj] using hjd) k h')
        · cases hj
    · rw [putAll_other]
      · refine inv.free t fun k hkn hkl hkd => ?_
        rcases Nat.lt_trichotomy k i with h' | h' | h'
        · exact hex ⟨k, h', hkd⟩
        · subst h'; rw [hunf] at hkl; cases hkl
        · obtain ⟨ok, hok, hdk⟩ := (hlook t ht k hkn hkd).2 h'
          obtain ⟨e, he, hb, hei⟩ := dep_spec hdk
          have := inv.closed k ok hok hkl e he hb
          rw [hei, hunf] at this
          cases this
      · intro d s hm hd
        obtain ⟨j, hj⟩ := List.getElem?_of_mem hm
        rw [List.getElem?_take] at hj
        split at hj
        · rename_i hji
          rw [hsp j (by omega)] at hj
          simp only [Option.some.injEq, Prod.mk.injEq] at hj
          exact hex ⟨j, hji, hj.1.trans hd⟩
        · cases hj
  have hexec : execOp a.eval o = execOp (putAll vs 0 (full.take i) a0).eval o := execOp_congr o (fun cs b => Region.noSelect_spec hsel i o cs b ho) fun x hx => by
    cases x with
    | tmp t =>
      have := hslot t (List.mem_append_left _ (List.mem_filterMap.2 ⟨.tmp t, by simpa using hx, rfl⟩))
      simp only [Act.eval, Array.getD_eq_getD_getElem?, this]
    | _ => rfl
  have hwant : Region.wanted o (yielded ops a.tmps) = Region.wanted o (yielded ops (putAll vs 0 (full.take i) a0).tmps) := by
    unfold Region.wanted
    cases hgd : o.guard with
    | none => rfl
    | some gw =>
      obtain ⟨g, want⟩ := gw
      have hy : yielded ops a.tmps g = yielded ops (putAll vs 0 (full.take i) a0).tmps g := by
        unfold yielded
        cases ht : (ops[g]?).bind (·.dst) with
        | none => rfl
        | some t =>
          have := hslot t (by simp [Oper.looksAt, hgd, ht])
          simp only [Option.bind_some, this]
      simp only [hy]
  have hdi : dstAt ops i = o.dst := by simp [dstAt, ho]
  -- the invariant behind it
  have hnew : ∀ v w', Fut w w' → (sp i).holds v w' → GInv ops n sp a0 w0 (fun k => if k = i then v else vs k) (listed.setIfInBounds i true) (a.put o.dst v) w' := fun v w' hf hv => by
    have hil : i < listed.size := by rw [inv.lsize]; omega
    have hset : ∀ k, k ≠ i → (listed.setIfInBounds i true).getD k false = listed.getD k false := fun k hk => getD_set_ne false (Ne.symm hk)
    refine ⟨by rw [put_size]; exact inv.size, by rw [put_defers']; exact inv.defers, inv.fut.trans hf, fun t ht => ?_, fun k hk hl => ?_, fun k d hk hl hd => ?_, by simp [inv.lsize], fun j oj hj hl e he hb => ?_, fun t ht ht' => by rw [getD_set_ne true (by omega)]; exact inv.tail t ht ht'⟩
    · have hit : o.dst ≠ some t := by rw [← hdi]; exact ht i hin (by simp [hil])
      rw [put_other _ _ _ _ hit]
      refine inv.free t fun k hk hl => ht k hk ?_
      by_cases hki : k = i
      · subst hki; simp [hil]
      · rw [hset k hki]; exact hl
    · by_cases hki : k = i
      · subst hki; simpa using hv
      · simp only [hki, if_false]
        rw [hset k hki] at hl
        exact Sp.holds_mono (hmono k hk) hf (inv.held k hk hl)
    · by_cases hki : k = i
      · subst hki
        have hod : o.dst = some d := by rw [← hdi]; exact hd
        rw [hod]
        show _ = some (if k = k then v else vs k)
        rw [if_pos rfl]
        exact put_same _ _ _ (by rw [inv.size]; exact hbd k d hd hk)
      · simp only [hki, if_false]
        rw [hset k hki] at hl
        rw [put_other]
        · exact inv.slot k d hk hl hd
        · intro hod
          have hid : dstAt ops i = some d := hdi.trans hod
          rcases Nat.lt_or_ge k i with h' | h'
          · exact hdist d hod k h' hd
          · obtain ⟨ok, hok, _, hd2, _⟩ := hg k hk
            exact hd2 d (by simpa [dstAt, hok] using hd) i (by omega) hid
    · by_cases hij : i = j
      · subst hij
        have : oj = o := Option.some.inj (hj.symm.trans ho)
        subst this
        exact getD_set_true (hall e he hb)
      · rw [getD_set_ne false hij] at hl
        exact getD_set_true (inv.closed j oj hj hl e he hb)
  unfold wpOp
  simp only [ho]
  unfold givesG at hlex
  rw [← hwant] at hlex
  split
  · rename_i hw
    rw [if_pos hw] at hlex
    refine .inl ?_
    unfold gives at hlex
    rw [← hexec] at hlex
    unfold Oper.wp
    generalize (execOp a.eval o).run P w = r at hlex ⊢
    cases r with
    | ok nx w' =>
      cases nx <;> simp only [givesUpon] at hlex <;> simp only [Oper.upon]
      case value u => exact hK u _ _ (hnew u w' hlex.1 hlex.2)
      case skip => exact hK undef _ _ (hnew undef w' hlex.1 hlex.2)
      case enter f args =>
        refine Calls.mono hlex fun e w'' he => ?_
        obtain ⟨v, rfl, hf, hv⟩ := he
        exact hK v _ _ (hnew v w'' hf hv)
    | halt x w' => simp only [givesUpon] at hlex
  · rename_i hw
    rw [if_neg hw] at hlex
    exact hK undef _ _ (hnew undef w (Fut.refl w) hlex)
end
theorem wp_region_graphV {P : Program} {id : Nat} {Q : Exit → Act → World → Prop} {a0 : Act} {w : World} {l : List Oper} (n : Nat) (hm : P.follows .mixedOrders = true)
    (hB : (graphB l.toArray n && tailB l.toArray n) = true) (hsz : ((List.range n).all fun k => match dstAt l.toArray k with | some d => decide (d < a0.tmps.size) | none => true) = true)
    (spv : (Nat → Value) → Nat → Sp) (hloc : ∀ k o, l.toArray[k]? = some o → ∀ vs vs', (∀ j, dep o j = true → vs j = vs' j) → spv vs k = spv vs' k) (hmono : ∀ vs k, k < n → (spv vs k).mono)
    (hob : ∀ vs k o, k < n → l[k]? = some o → ∀ w', Fut w.drew w' → (∀ j d S, ((fullV l n spv vs).take k)[j]? = some (d, Sp.rel S) → dep o j = true → S (vs j) w') → givesG P l.toArray o (putAll vs 0 ((fullV l n spv vs).take k) a0) (spv vs k) w')
    (hfin : ∀ vs w', Fut w.drew w' → (∀ j d S, (fullV l n spv vs)[j]? = some (d, Sp.rel S) → S (vs j) w') → wpList P l.toArray Q (l.drop n) (putAll vs 0 (fullV l n spv vs) a0) w') : (Code.region id l.toArray true).wp P Q a0 w := by
  simp only [Bool.and_eq_true, tailB] at hB
  obtain ⟨hG, hS, hseq⟩ := hB
  obtain ⟨hsel, hns, hg⟩ := graphB_spec hG
  have hnl : n ≤ l.length := by simpa using hns
  have hbd : ∀ k d, dstAt l.toArray k = some d → k < n → d < a0.tmps.size := fun k d hd hk => by
    have := List.all_eq_true.1 hsz k (List.mem_range.2 hk)
    simpa [hd] using this
  have hfl : ∀ vs, (fullV l n spv vs).length = n := fun vs => by simp [fullV]
  have hfull : ∀ vs k, k < n → (fullV l n spv vs)[k]? = some (dstAt l.toArray k, spv vs k) := fun vs k hk => by simp [fullV, hk]
  refine wp_region_any hm ?_
  have main : ∀ (f : Nat) (listed : Array Bool) (a : Act) (w' : World) (vs : Nat → Value), GInv l.toArray n (spv vs) a0 w.drew vs listed a w' → unl listed n = f →
      wpAny P .any l.toArray Q (f + (l.length - n)) listed a w' := by
    intro f
    induction f with
    | zero =>
      intro listed a w' vs inv hf
      rw [Nat.zero_add]
      have hlisted : listed = headDone n l.length := by
        refine Array.ext_getElem? fun t => ?_
        by_cases ht : t < l.length
        · have hts : t < listed.size := by rw [inv.lsize]; simpa using ht
          have h2 : (headDone n l.length)[t]? = some (decide (t < n)) := by simp [headDone, ht]
          rw [h2, Array.getElem?_eq_getElem hts]
          by_cases htn : t < n
          · have := unl_zero n hf t htn
            simp [hts] at this
            simp [htn, this]
          · have := inv.tail t (by omega) (by simpa using ht)
            simp [hts] at this
            simp [htn, this]
        · rw [Array.getElem?_eq_none (by rw [inv.lsize]; simp; omega), Array.getElem?_eq_none (by simp [headDone]; omega)]
      have hlast := hfin vs w' inv.fut fun j d S hj => by
        have hjn : j < n := by rw [← hfl vs]; exact (List.getElem?_eq_some_iff.1 hj).1
        have h1 := hfull vs j hjn
        rw [hj] at h1
        simp only [Option.some.injEq, Prod.mk.injEq] at h1
        have := inv.held j hjn (unl_zero n hf j hjn)
        rw [← h1.2] at this
        exact this
      have hact : a = putAll vs 0 (fullV l n spv vs) a0 := by
        refine act_ext (fun t => ?_) ?_
        · by_cases hex : ∃ k, k < n ∧ dstAt l.toArray k = some t
          · obtain ⟨k, hk, hkd⟩ := hex
            have h1 := hfull vs k hk
            rw [hkd] at h1
            rw [inv.slot k t hk (unl_zero n hf k hk) hkd, putAll_at vs t (fullV l n spv vs) 0 a0 k (spv vs k) (hbd k t hkd hk) h1, Nat.zero_add]
            · have h2 := inv.held k hk (unl_zero n hf k hk)
              cases hs : spv vs k with
              | det c => rw [hs] at h2; simp only [Sp.holds] at h2; rw [h2]; rfl
              | rel S => rfl
            · intro j d s' hj hd
              have hjn : j < n := by rw [← hfl vs]; exact (List.getElem?_eq_some_iff.1 hj).1
              have h3 := hfull vs j hjn
              rw [hj] at h3
              simp only [Option.some.injEq, Prod.mk.injEq] at h3
              have hjd : dstAt l.toArray j = some t := h3.1.symm.trans hd
              rcases Nat.lt_trichotomy j k with h' | h' | h'
              · obtain ⟨ok, hok, _, hd2, _⟩ := hg k hk
                exact absurd hjd (hd2 t (by simpa [dstAt, hok] using hkd) j h')
              · exact h'
              · obtain ⟨oj, hoj, _, hd2, _⟩ := hg j hjn
                exact absurd hkd (hd2 t (by simpa [dstAt, hoj] using hjd) k h')
          · rw [inv.free t fun k hk _ hd => hex ⟨k, hk, hd⟩, putAll_other]
            intro d s hmem hd
            obtain ⟨j, hj⟩ := List.getElem?_of_mem hmem
            have hjn : j < n := by rw [← hfl vs]; exact (List.getElem?_eq_some_iff.1 hj).1
            have h3 := hfull vs j hjn
            rw [hj] at h3
            simp only [Option.some.injEq, Prod.mk.injEq] at h3
            exact hex ⟨j, hjn, h3.1.symm.trans hd⟩
        · rw [inv.defers]
          have : ∀ (acc : List (Option Tmp × Sp)) (k : Nat) (b : Act), (putAll vs k acc b).defers = b.defers := by
            intro acc
            induction acc with
            | nil => intro k b; rfl
            | cons x r ih =>
              intro k b
              obtain ⟨d, s⟩ := x
              cases s <;> simp only [putAll] <;> rw [ih, put_defers']
          rw [this]
      rw [← hact] at hlast
      have := wpAny_of_seq (md := .any) (P := P) (Q' := Q) (l.drop n) n listed a w' (fun j => by simp [List.getElem?_drop])
        (by rw [hlisted, List.length_drop]; simpa using hseq) hlast
      rwa [List.length_drop] at this
    | succ f ih =>
      intro listed a w' vs inv hf
      obtain ⟨i0, hi0, hi1, hi2⟩ := unl_some n (by rw [hf]; omega)
      have hils : ∀ i, i < n → i < listed.size := fun i hi => by rw [inv.lsize]; simp; omega
      have hready : i0 ∈ Region.ready .any l.toArray listed := by
        obtain ⟨o, ho, hedge, _⟩ := hg i0 hi0
        exact mem_ready.2 ⟨getD_in (hils i0 hi0) hi1, o, ho, fun e he hb => hi2 _ (hedge e he hb)⟩
      rw [show f + 1 + (l.length - n) = (f + (l.length - n)) + 1 by omega]
      refine ⟨fun h0 => (by rw [h0] at hready; cases hready), fun i hi => ?_⟩
      have hin : i < n := by
        rcases Nat.lt_or_ge i n with h' | h'
        · exact h'
        · exfalso
          have hisz : i < l.toArray.size := by
            obtain ⟨_, o, ho, _⟩ := mem_ready.1 hi
            exact (Array.getElem?_eq_some_iff.1 ho).1
          simp only [sinkB, Bool.or_eq_true, decide_eq_true_eq, Bool.and_eq_true] at hS
          rcases hS with hS | ⟨hs, hc⟩
          · omega
          · exact tail_waits hs hc (by omega) ⟨inv.lsize, inv.closed, inv.tail⟩ _ i0 rfl hi0 (getD_in (hils i0 hi0) hi1) i h' hi
      have hunf : listed.getD i false = false := getD_both (mem_ready.1 hi).1
      refine stepV inv (full := fullV l n spv vs) (Q := Q) hG hbd (hfull vs) (hfl vs) (hmono vs)
        (fun o ho hfacts => hob vs i o hin (by simpa using ho) w' inv.fut hfacts) hi hin fun v a' w'' inv' => ih _ a' w'' (fun k => if k = i then v else vs k) ⟨inv'.size, inv'.defers, inv'.fut, inv'.free, fun k hk hl => ?_, inv'.slot, inv'.lsize, inv'.closed, inv'.tail⟩ ?_
      · have hkl : k < l.toArray.size := by simp; omega
        have hloc' := hloc k _ (Array.getElem?_eq_getElem hkl) vs (fun k => if k = i then v else vs k) fun j hd => by
          by_cases hji : j = i
          · exfalso
            subst hji
            obtain ⟨e, he, hb, hei⟩ := dep_spec hd
            by_cases hkj : k = j
            · subst hkj
              obtain ⟨o', ho', hedge, _⟩ := hg k hin
              have : l.toArray[k] = o' := Option.some.inj ((Array.getElem?_eq_getElem hkl).symm.trans ho')
              rw [this] at he
              have := hedge e he hb
              omega
            · have hlk : listed.getD k false = true := by rwa [getD_set_ne false (Ne.symm hkj)] at hl
              have := inv.closed k _ (Array.getElem?_eq_getElem hkl) hlk e he hb
              rw [hei, hunf] at this
              cases this
          · simp [hji]
        rw [← hloc']
        exact inv'.held k hk hl
      have hun := getD_both (mem_ready.1 hi).1
      have := unl_set hun (hils i hin) n hin
      omega
  have := main n (Array.replicate l.toArray.size false) a0 w.drew (fun _ => undef)
    ⟨rfl, rfl, Fut.refl _, fun _ _ => rfl, fun k _ hl => (by rw [getD_replicate_false] at hl; cases hl), fun k _ _ hl => (by rw [getD_replicate_false] at hl; cases hl), by simp,
      fun j oj _ hl => (by rw [getD_replicate_false] at hl; cases hl), fun t _ ht => getD_in (by simpa using ht) (getD_replicate_false _ _)⟩ (unl_none _ _)
  rwa [show n + (l.length - n) = l.toArray.size by simp; omega] at this

/-- What an operation hands on. -/
inductive SpV where
  | det (c : Value)
  | rel (ds : List Nat) (S : List Value → Value → World → Prop)
def SpV.at (vs : Nat → Value) : SpV → Sp
  | .det c => .det c
  | .rel ds S => .rel (S (ds.map vs))
def SpV.mono : SpV → Prop
  | .det _ => True
  | .rel _ S => ∀ us v w w', Fut w w' → S us v w → S us v w'
def SpV.ds : SpV → List Nat
  | .det _ => []
  | .rel ds _ => ds
def SpV.isRel : SpV → Bool
  | .det _ => false
  | .rel _ _ => true
def depsB (ops : Array Oper) (dss : List (List Nat)) (rels : List Bool) : Bool := (List.range dss.length).all fun k => (dss[k]?.getD []).all fun d => decide (d < k) && (rels[d]?.getD false) && (match ops[k]? with | some o => dep o d | none => false)
def RunV (P : Program) (ops : Array Oper) (w0 : World) (K : Act → World → Prop) : Nat → List Oper → List SpV → (Nat → Value) → Act → List (Nat × (World → Prop)) → Prop
  | _, [], _, _, a, known => ∀ w, Fut w0 w → AllFacts known w → K a w
  | i, o :: r, .det c :: sps, env, a, known => (∀ w, Fut w0 w → Facts known o w → givesG P ops o a (.det c) w) ∧ RunV P ops w0 K (i + 1) r sps env (a.put o.dst c) known
  | i, o :: r, .rel ds S :: sps, env, a, known => (∀ us v w w', Fut w w' → S us v w → S us v w') ∧ (∀ w, Fut w0 w → Facts known o w → givesG P ops o a (.rel (S (ds.map env))) w) ∧
      ∀ v, RunV P ops w0 K (i + 1) r sps (fun k => if k = i then v else env k) (a.put o.dst v) (known ++ [(i, S (ds.map env) v)])
  | _, _ :: _, [], _, _, _ => False
/-- The obligations out of the walk. -/
theorem run_obl {P : Program} {ops : Array Oper} {w0 : World} {K : Act → World → Prop} {a0 : Act} (vs : Nat → Value) : ∀ (l : List Oper) (sps : List SpV) (acc : List (Option Tmp × Sp)) (env : Nat → Value),
    RunV P ops w0 K acc.length l sps env (putAll vs 0 acc a0) (knownOf vs 0 acc) → (∀ (k : Nat) (sp : SpV), sps[k]? = some sp → ∀ d ∈ sp.ds, d < acc.length → env d = vs d) →
    (∀ (k : Nat) (sp : SpV), sps[k]? = some sp → ∀ d ∈ sp.ds, d < acc.length + k ∧ (acc.length ≤ d → ∃ ds S, sps[d - acc.length]? = some (.rel ds S))) →
    ∃ rest : List (Option Tmp × Sp), rest.length = l.length ∧ l.length ≤ sps.length ∧ (∀ (j : Nat) (o : Oper), l[j]? = some o → rest[j]? = some (o.dst, ((sps[j]?.map (SpV.at vs)).getD (.det undef)))) ∧
      (∀ (j : Nat) (sp : SpV), j < l.length → sps[j]? = some sp → sp.mono) ∧
      (∀ (j : Nat) (o : Oper), l[j]? = some o → ∀ w, Fut w0 w → (∀ i d S, ((acc ++ rest).take (acc.length + j))[i]? = some (d, Sp.rel S) → dep o i = true → S (vs i) w) → givesG P ops o (putAll vs 0 ((acc ++ rest).take (acc.length + j)) a0) ((sps[j]?.map (SpV.at vs)).getD (.det undef)) w) ∧
      (∀ w, Fut w0 w → (∀ i d S, (acc ++ rest)[i]? = some (d, Sp.rel S) → S (vs i) w) → K (putAll vs 0 (acc ++ rest) a0) w)
  | [], sps, acc, env, h, _, _ => by
    refine ⟨[], rfl, Nat.zero_le _, fun j o hj => by simp at hj, fun j sp hj => by simp at hj, fun j o hj => by simp at hj, fun w hw hv => ?_⟩
    simp only [RunV] at h
    rw [List.append_nil] at hv ⊢
    exact h w hw (allFacts_of acc 0 fun j d S hj => by rw [Nat.zero_add]; exact hv j d S hj)
  | o :: r, [], acc, env, h, _, _ => by simp only [RunV] at h
  | o :: r, .det c :: sps, acc, env, h, he, hd => by
    simp only [RunV] at h
    obtain ⟨h1, h2⟩ := h
    have hlen : (acc ++ [(o.dst, Sp.det c)]).length = acc.length + 1 := by simp
    obtain ⟨rest, r1, r2, r3, r4, r5, r6⟩ := run_obl vs r sps (acc ++ [(o.dst, Sp.det c)]) env (by
      rw [putAll_append, knownOf_append, hlen]
      simpa [putAll, knownOf] using h2) (fun k sp hk d hdm hlt => by
        rw [hlen] at hlt
        have q1 := he (k + 1) sp (by simpa using hk) d hdm
        have q2 := hd (k + 1) sp (by simpa using hk) d hdm
        rcases Nat.lt_or_ge d acc.length with h' | h'
        · exact q1 h'
        · obtain ⟨ds, S, q3⟩ := q2.2 h'
          rw [show d - acc.length = 0 by omega] at q3
          simp at q3) (fun k sp hk d hdm => by
        have q2 := hd (k + 1) sp (by simpa using hk) d hdm
        rw [hlen]
        refine ⟨by omega, fun h' => ?_⟩
        obtain ⟨ds, S, q3⟩ := q2.2 (by omega)
        refine ⟨ds, S, ?_⟩
        rw [show d - acc.length = (d - (acc.length + 1)) + 1 by omega] at q3
        simpa using q3)
    refine ⟨(o.dst, Sp.det c) :: rest, by simp [r1], by simp; omega, fun j o' hj => ?_, fun j sp hj hs => ?_, fun j o' hj w hw hv => ?_, fun w hw hv => ?_⟩
    · cases j with
      | zero => simp only [List.getElem?_cons_zero, Option.some.injEq] at hj; subst hj; rfl
      | succ j => simpa using r3 j o' (by simpa using hj)
    · cases j with
      | zero => simp only [List.getElem?_cons_zero, Option.some.injEq] at hs; subst hs; trivial
      | succ j => exact r4 j sp (by simpa using hj) (by simpa using hs)
    · cases j with
      | zero =>
        simp only [List.getElem?_cons_zero, Option.some.injEq] at hj
        subst hj
        simp only [Nat.add_zero] at hv ⊢
        rw [List.take_left] at hv ⊢
        exact h1 w hw (facts_of acc 0 fun i d S hi hdp => by rw [Nat.zero_add] at hdp ⊢; exact hv i d S hi hdp)
      | succ j =>
        have q := r5 j o' (by simpa using hj) w hw
        rw [hlen, List.append_assoc, show acc.length + 1 + j = acc.length + (j + 1) by omega] at q
        simpa using q hv
    · have q := r6 w hw
      rw [List.append_assoc] at q
      exact q hv
  | o :: r, .rel ds S :: sps, acc, env, h, he, hd => by
    simp only [RunV] at h
    obtain ⟨h0, h1, h2⟩ := h
    have hds : ds.map env = ds.map vs := List.map_congr_left fun d hdm => he 0 (.rel ds S) rfl d hdm (hd 0 (.rel ds S) rfl d hdm).1
    have hlen : (acc ++ [(o.dst, Sp.rel (S (ds.map vs)))]).length = acc.length + 1 := by simp
    obtain ⟨rest, r1, r2, r3, r4, r5, r6⟩ := run_obl vs r sps (acc ++ [(o.dst, Sp.rel (S (ds.map vs)))]) (fun k => if k = acc.length then vs acc.length else env k) (by
      rw [putAll_append, knownOf_append, hlen]
      have := h2 (vs acc.length)
      rw [hds] at this
      simpa [putAll, knownOf] using this) (fun k sp hk d hdm hlt => by
        rw [hlen] at hlt
        by_cases h' : d = acc.length
        · subst h'; simp
        · simp only [h', if_false]
          exact he (k + 1) sp (by simpa using hk) d hdm (by omega)) (fun k sp hk d hdm => by
        have q2 := hd (k + 1) sp (by simpa using hk) d hdm
        rw [hlen]
        refine ⟨by omega, fun h' => ?_⟩
        obtain ⟨ds, S, q3⟩ := q2.2 (by omega)
        refine ⟨ds, S, ?_⟩
        rw [show d - acc.length = (d - (acc.length + 1)) + 1 by omega] at q3
        simpa using q3)
    refine ⟨(o.dst, Sp.rel (S (ds.map vs))) :: rest, by simp [r1], by simp; omega, fun j o' hj => ?_, fun j sp hj hs => ?_, fun j o' hj w hw hv => ?_, fun w hw hv => ?_⟩
    · cases j with
      | zero => simp only [List.getElem?_cons_zero, Option.some.injEq] at hj; subst hj; rfl
      | succ j => simpa using r3 j o' (by simpa using hj)
    · cases j with
      | zero => simp only [List.getElem?_cons_zero, Option.some.injEq] at hs; subst hs; exact h0
      | succ j => exact r4 j sp (by simpa using hj) (by simpa using hs)
    · cases j with
      | zero =>
        simp only [List.getElem?_cons_zero, Option.some.injEq] at hj
        subst hj
        simp only [Nat.add_zero] at hv ⊢
        rw [List.take_left] at hv ⊢
        have q := h1 w hw (facts_of acc 0 fun i d S hi hdp => by rw [Nat.zero_add] at hdp ⊢; exact hv i d S hi hdp)
        rw [hds] at q
        exact q
      | succ j =>
        have q := r5 j o' (by simpa using hj) w hw
        rw [hlen, List.append_assoc, show acc.length + 1 + j = acc.length + (j + 1) by omega] at q
        simpa using q hv
    · have q := r6 w hw
      rw [List.append_assoc] at q
      exact q hv
inductive Sh where
  | d
  | r (S : Value → World → Prop)
  | v (ds : List Nat) (S : List Value → Value → World → Prop)
def Exs (K : List SpV → Prop) : List Sh → Prop
  | [] => K []
  | .d :: sh => ∃ c, Exs (fun l => K (.det c :: l)) sh
  | .r S :: sh => Exs (fun l => K (.rel [] (fun _ => S) :: l)) sh
  | .v ds S :: sh => Exs (fun l => K (.rel ds S :: l)) sh
def Sh.ds : Sh → List Nat
  | .d => []
  | .r _ => []
  | .v ds _ => ds
def Sh.isRel : Sh → Bool
  | .d => false
  | .r _ => true
  | .v _ _ => true
theorem Exs_some {K : List SpV → Prop} : ∀ (sh : List Sh), Exs K sh → ∃ l, K l ∧ l.map SpV.ds = sh.map Sh.ds ∧ l.map SpV.isRel = sh.map Sh.isRel
  | [], h => ⟨[], h, rfl, rfl⟩
  | .d :: sh, ⟨c, h⟩ => let ⟨l, h', e1, e2⟩ := Exs_some sh h; ⟨.det c :: l, h', by simp [e1, SpV.ds, Sh.ds], by simp [e2, SpV.isRel, Sh.isRel]⟩
  | .r S :: sh, h => let ⟨l, h', e1, e2⟩ := Exs_some sh h; ⟨.rel [] (fun _ => S) :: l, h', by simp [e1, SpV.ds, Sh.ds], by simp [e2, SpV.isRel, Sh.isRel]⟩
  | .v ds S :: sh, h => let ⟨l, h', e1, e2⟩ := Exs_some sh h; ⟨.rel ds S :: l, h', by simp [e1, SpV.ds, Sh.ds], by simp [e2, SpV.isRel, Sh.isRel]⟩
/-- THE RULE. -/
theorem wp_graph {P : Program} {id : Nat} {Q : Exit → Act → World → Prop} {a0 : Act} {w : World} {l : List Oper} (n : Nat) (shape : List Sh) (hm : P.follows .mixedOrders = true)
    (hB : (graphB l.toArray n && tailB l.toArray n) = true) (hsz : ((List.range n).all fun k => match dstAt l.toArray k with | some d => decide (d < a0.tmps.size) | none => true) = true) (hD : depsB l.toArray (shape.map Sh.ds) (shape.map Sh.isRel) = true)
    (h : Exs (fun sps => RunV P l.toArray w.drew (wpList P l.toArray Q (l.drop n)) 0 (l.take n) sps (fun _ => undef) a0 []) shape) : (Code.region id l.toArray true).wp P Q a0 w := by
  obtain ⟨sps, hs, e1, e2⟩ := Exs_some shape h
  rw [← e1, ← e2] at hD
  have hdeps : ∀ (k : Nat) (sp : SpV), sps[k]? = some sp → ∀ d ∈ sp.ds, d < k ∧ (∃ ds S, sps[d]? = some (.rel ds S)) ∧ ∀ o, l[k]? = some o → dep o d = true := fun k sp hk d hd => by
    have hkl : k < sps.length := (List.getElem?_eq_some_iff.1 hk).1
    have h1 := List.all_eq_true.1 hD k (List.mem_range.2 (by simpa using hkl))
    simp only [List.getElem?_map, hk, Option.map_some, Option.getD_some] at h1
    have h2 := List.all_eq_true.1 h1 d hd
    simp only [Bool.and_eq_true, decide_eq_true_eq] at h2
    obtain ⟨⟨h3, h4⟩, h5⟩ := h2
    refine ⟨h3, ?_, fun o ho => ?_⟩
    · have hdl : d < sps.length := by omega
      rw [List.getElem?_eq_getElem hdl] at h4 ⊢
      simp only [Option.map_some, Option.getD_some] at h4
      cases hq : sps[d] with
      | det c => rw [hq] at h4; simp [SpV.isRel] at h4
      | rel ds S => exact ⟨ds, S, rfl⟩
    · have : l.toArray[k]? = some o := by simpa using ho
      rw [this] at h5
      exact h5
  obtain ⟨spv, hspv⟩ : ∃ spv : (Nat → Value) → Nat → Sp, ∀ vs k, spv vs k = (sps[k]?.map (SpV.at vs)).getD (.det undef) := ⟨_, fun _ _ => rfl⟩
  have key : ∀ vs : Nat → Value, _ := fun vs => run_obl vs (l.take n) sps [] (fun _ => undef) (by simpa [putAll, knownOf] using hs) (fun k sp _ d _ hlt => by simp at hlt) (fun k sp hk d hd => ⟨by simpa using (hdeps k sp hk d hd).1, fun _ => by simpa using (hdeps k sp hk d hd).2.1⟩)
  have hnl : n ≤ l.length := by
    simp only [Bool.and_eq_true] at hB
    obtain ⟨_, hns, _⟩ := graphB_spec hB.1
    simpa using hns
  have hrest : ∀ (vs : Nat → Value) (rest : List (Option Tmp × Sp)), rest.length = (l.take n).length → (∀ (j : Nat) (o : Oper), (l.take n)[j]? = some o → rest[j]? = some (o.dst, ((sps[j]?.map (SpV.at vs)).getD (.det undef)))) → rest = fullV l n spv vs := fun vs rest h1 h2 => by
    refine List.ext_getElem? fun j => ?_
    by_cases hj : j < n
    · have hlj : l[j]? = some (l[j]'(by omega)) := List.getElem?_eq_getElem (by omega)
      rw [h2 j _ (by rw [List.getElem?_take, if_pos hj]; exact hlj)]
      simp [fullV, hj, dstAt, hlj, hspv]
    · rw [List.getElem?_eq_none (by rw [h1, List.length_take]; omega), List.getElem?_eq_none (by simp [fullV]; omega)]
  refine wp_region_graphV n hm hB hsz spv (fun k o ho vs vs' hv => ?_) (fun vs k hk => ?_) (fun vs k o hk ho w' hw hv => ?_) (fun vs w' hw hv => ?_)
  · rw [hspv, hspv]
    cases hk : sps[k]? with
    | none => rfl
    | some sp =>
      simp only [Option.map_some, Option.getD_some]
      cases sp with
      | det c => rfl
      | rel ds S =>
        simp only [SpV.at]
        have hmm : ds.map vs = ds.map vs' := List.map_congr_left fun d hd => hv d ((hdeps k _ hk d hd).2.2 o (by simpa using ho))
        rw [hmm]
  · obtain ⟨rest, r1, r2, r3, r4, r5, r6⟩ := key vs
    rw [hspv]
    have hkl : k < sps.length := by
      rw [List.length_take] at r2
      omega
    rw [List.getElem?_eq_getElem hkl]
    have := r4 k sps[k] (by rw [List.length_take]; omega) (List.getElem?_eq_getElem hkl)
    simp only [Option.map_some, Option.getD_some]
    cases hq : sps[k] with
    | det c => trivial
    | rel ds S => rw [hq] at this; exact fun v w w' hf hs => this _ v w w' hf hs
  · obtain ⟨rest, r1, r2, r3, r4, r5, r6⟩ := key vs
    have e := hrest vs rest r1 r3
    have q := r5 k o (by rw [List.getElem?_take, if_pos hk]; exact ho) w' hw
    simp only [List.nil_append, List.length_nil, Nat.zero_add] at q
    rw [e] at q
    rw [hspv]
    exact q hv
  · obtain ⟨rest, r1, r2, r3, r4, r5, r6⟩ := key vs
    have e := hrest vs rest r1 r3
    have q := r6 w' hw
    simp only [List.nil_append] at q
    rw [e] at q
    exact q hv
section
variable {P : Program} {ops : Array Oper} {w0 : World} {K : Act → World → Prop} {i : Nat} {o : Oper} {r : List Oper} {sps : List SpV} {env : Nat → Value} {a : Act} {known : List (Nat × (World → Prop))}
theorem Run.valG {c : Value} (hg : Region.wanted o (yielded ops a.tmps) = true) (h : ∀ w, Fut w0 w → Facts known o w → (execOp a.eval o).run P w = .ok (.value c) w) (k : RunV P ops w0 K (i + 1) r sps env (a.put o.dst c) known) :
    RunV P ops w0 K i (o :: r) (.det c :: sps) env a known := by
  refine ⟨fun w hw hf => ?_, k⟩
  unfold givesG
  rw [if_pos hg]
  unfold gives
  rw [h w hw hf]
  exact ⟨Fut.refl w, rfl⟩
theorem Run.call {c : Value} {f : FuncId} {args : Array Value} (hg : Region.wanted o (yielded ops a.tmps) = true) (h : ∀ w, Fut w0 w → (execOp a.eval o).run P w = .ok (.enter f args) w)
    (hc : ∀ w, Fut w0 w → Facts known o w → Calls P f args w fun e w' => e = .returned c ∧ Fut w w') (k : RunV P ops w0 K (i + 1) r sps env (a.put o.dst c) known) :
    RunV P ops w0 K i (o :: r) (.det c :: sps) env a known := by
  refine ⟨fun w hw hf => ?_, k⟩
  unfold givesG
  rw [if_pos hg]
  unfold gives
  rw [h w hw]
  exact (hc w hw hf).mono fun e w' ⟨he, hf'⟩ => ⟨c, he, hf', rfl⟩
theorem Run.callR {ds : List Nat} {S : List Value → Value → World → Prop} {f : FuncId} {args : Array Value} (hg : Region.wanted o (yielded ops a.tmps) = true) (hm : ∀ us v w w', Fut w w' → S us v w → S us v w') (h : ∀ w, Fut w0 w → (execOp a.eval o).run P w = .ok (.enter f args) w)
    (hc : ∀ w, Fut w0 w → Facts known o w → Calls P f args w fun e w' => ∃ v, e = .returned v ∧ Fut w w' ∧ S (ds.map env) v w') (k : ∀ v, RunV P ops w0 K (i + 1) r sps (fun k => if k = i then v else env k) (a.put o.dst v) (known ++ [(i, S (ds.map env) v)])) :
    RunV P ops w0 K i (o :: r) (.rel ds S :: sps) env a known := by
  refine ⟨hm, fun w hw hf => ?_, k⟩
  unfold givesG
  rw [if_pos hg]
  unfold gives
  rw [h w hw]
  exact (hc w hw hf).mono fun e w' ⟨v, he, hf', hs⟩ => ⟨v, he, hf', hs⟩
theorem Run.valR {ds : List Nat} {S : List Value → Value → World → Prop} (hg : Region.wanted o (yielded ops a.tmps) = true) (hm : ∀ us v w w', Fut w w' → S us v w → S us v w')
    (h : ∀ w, Fut w0 w → Facts known o w → ∃ v w', (execOp a.eval o).run P w = .ok (.value v) w' ∧ Fut w w' ∧ S (ds.map env) v w') (k : ∀ v, RunV P ops w0 K (i + 1) r sps (fun k => if k = i then v else env k) (a.put o.dst v) (known ++ [(i, S (ds.map env) v)])) :
    RunV P ops w0 K i (o :: r) (.rel ds S :: sps) env a known := by
  refine ⟨hm, fun w hw hf => ?_, k⟩
  unfold givesG
  rw [if_pos hg]
  unfold gives
  obtain ⟨v, w', he, h1, h2⟩ := h w hw hf
  rw [he]
  exact ⟨h1, h2⟩
theorem Run.done (h : ∀ w, Fut w0 w → AllFacts known w → K a w) : RunV P ops w0 K i [] sps env a known := h
end
end Go.Proofs.YtijdichfaofjaaaGreatDoor.GV
/- width; At where no row is. -/
namespace Go.Proofs.YtijdichfaofjaaaGreatDoor
open Go.RowKit Go.WideMaps
set_option linter.unusedSimpArgs false
set_option linter.unusedVariables false

def widN (n : Int) : Nat := (Int.tmod n 25).natAbs
theorem widN_le (n : Int) : widN n ≤ 24 := by
  unfold widN
  have h := Int.natAbs_tmod n 25
  rw [h]
  have := Nat.mod_lt n.natAbs (show 0 < (25 : Int).natAbs by decide)
  have e : (25 : Int).natAbs = 25 := rfl
  omega
theorem exec_build0_R {w : World} {o : Oper} {a : Act} (ho : o.op = .build 27 #[]) : (execOp a.eval o).run Tryz.prog w = .ok (.value (Rw.val zeroRow)) w := by
  unfold execOp
  rw [ho]
  kernel_rfl
set_option maxHeartbeats 800000 in
set_option maxRecDepth 100000 in
theorem at_bad {B : Nat} {w : World} {b pb mb : Nat} {lv : Value} {ar gone : Nat} {xs : List Rw} (h : RelI B w b pb mb lv ar gone xs) (i : Int) (hi : i < 0 ∨ (xs.length : Int) ≤ i) :
    Calls Tryz.prog 14 #[.pointer (some ⟨b, 0, none⟩), .int .i64 i] w fun e w' => e = .returned (.tuple #[Rw.val zeroRow, .int .i64 1]) ∧ Fut w w' := by
  have c2 := cell_at h.blk 2 _ rfl
  have p0 := cell_at h.pl.blk 0 _ rfl
  have HH := Lib.hid (fun W1 (F1 : Fut w W1) => there_any (h.fut F1))
  obtain ⟨A, cap, rfl, hl, hm⟩ := h.pl.form
  clear h
  go_enter Tryz.func14, Tryz.ntmps14
  go_wp2_with fail
  rw [zeros_eq]
  have hN := heap_alloc_new w (.cells (Rw.cells zeroRow).toArray 27)
  have F1 := Fut.alloc w (.cells (Rw.cells zeroRow).toArray 27)
  have hw : w.heap.size < (w.alloc (.cells (Rw.cells zeroRow).toArray 27)).heap.size := by simp
  obtain ⟨W1, hW⟩ : ∃ W1, w.alloc (.cells (Rw.cells zeroRow).toArray 27) = W1 := ⟨_, rfl⟩
  rw [hW] at hN F1 hw ⊢
  clear hW
  refine (HH.out W1 F1).mono ?_
  rintro e w1 ⟨rfl, hw1⟩
  have hw2 := hw1.symm
  subst hw2
  replace c2 := F1.cell c2
  replace p0 := F1.cell p0
  by_cases hn : i < 0
  · go_wp2_with (first | (refine wpList_of_run (wanted_none rfl _) (exec_build0_R rfl) ?_) | (refine wpList_store_R rowTy (wanted_none rfl _) _ _ rfl rfl rfl hN rfl zeroRow_ok ?_))
    refine bodyPost_ret (results_row rfl rowTy rfl (RowAt.of_block zeroRow_ok (World.putObj_heap_same hw)) (by rfl)) rfl ?_
    exact ⟨rfl, ((Only.fut F1).trans (Only.put (S := fun k => k = w.heap.size) _ _ rfl)).toFut (fun k hk => Nat.le_of_eq hk.symm)⟩
  · have hge : (xs.length : Int) ≤ i := by omega
    go_wp2_with (first | (refine wpList_of_run (wanted_none rfl _) (exec_build0_R rfl) ?_) | (refine wpList_store_R rowTy (wanted_none rfl _) _ _ rfl rfl rfl hN rfl zeroRow_ok ?_))
    refine bodyPost_ret (results_row rfl rowTy rfl (RowAt.of_block zeroRow_ok (World.putObj_heap_same hw)) (by rfl)) rfl ?_
    exact ⟨rfl, ((Only.fut F1).trans (Only.put (S := fun k => k = w.heap.size) _ _ rfl)).toFut (fun k hk => Nat.le_of_eq hk.symm)⟩
end Go.Proofs.YtijdichfaofjaaaGreatDoor
/- Lists in order, each once: plain laws, generic in the comparison. No program. -/
namespace Go.Proofs.YtijdichfaofjaaaGreatDoor
open Go.RowKit
set_option linter.unusedSimpArgs false
set_option linter.unusedVariables false

/-- A comparison that is an order. -/
structure TotC {α : Type} (c : α → α → Int) : Prop where
  eq0 : ∀ x y, c x y = 0 ↔ x = y
  neg : ∀ x y, c y x = - c x y
  trans : ∀ x y z, c x y < 0 → c y z < 0 → c x z < 0
section
variable {α : Type} {c : α → α → Int}
def Up (c : α → α → Int) (l : List α) : Prop := l.Pairwise fun x y => c x y < 0
/-- These in order, each once. -/
def UpOf (c : α → α → Int) (l xs : List α) : Prop := Up c xs ∧ ∀ x, x ∈ xs ↔ x ∈ l
theorem TotC.irr (h : TotC c) (x : α) : ¬ c x x < 0 := by have := (h.eq0 x x).2 rfl; omega
theorem Up.uniq (h : TotC c) : ∀ {l m : List α}, Up c l → Up c m → (∀ x, x ∈ l ↔ x ∈ m) → l = m
  | [], [], _, _, _ => rfl
  | [], y :: m, _, _, e => by have := (e y).2 (by simp); simp at this
  | x :: l, [], _, _, e => by have := (e x).1 (by simp); simp at this
  | x :: l, y :: m, hl, hm, e => by
    have hl' := List.pairwise_cons.1 hl
    have hm' := List.pairwise_cons.1 hm
    have hxy : x = y := by
      have h1 := (e x).1 (by simp)
      have h2 := (e y).2 (by simp)
      rcases List.mem_cons.1 h1 with h1 | h1
      · exact h1
      · rcases List.mem_cons.1 h2 with h2 | h2
        · exact h2.symm
        · have a := hm'.1 x h1
          have b := hl'.1 y h2
          have := h.neg x y; omega
    subst hxy
    rw [Up.uniq h hl'.2 hm'.2 fun z => ?_]
    have hz := e z
    constructor
    · intro hz1
      rcases List.mem_cons.1 (hz.1 (List.mem_cons_of_mem _ hz1)) with e1 | e1
      · subst e1; exact absurd (hl'.1 z hz1) (h.irr z)
      · exact e1
    · intro hz1
      rcases List.mem_cons.1 (hz.2 (List.mem_cons_of_mem _ hz1)) with e1 | e1
      · subst e1; exact absurd (hm'.1 z hz1) (h.irr z)
      · exact e1
theorem UpOf.uniq (h : TotC c) {l m xs ys : List α} (hx : UpOf c l xs) (hy : UpOf c m ys) (hm : ∀ x, x ∈ l ↔ x ∈ m) : xs = ys :=
  Up.uniq h hx.1 hy.1 fun x => (hx.2 x).trans ((hm x).trans (hy.2 x).symm)

/-- Laid in at its place, if it is not there. -/
def insU (c : α → α → Int) (x : α) : List α → List α
  | [] => [x]
  | y :: r => if c x y < 0 then x :: y :: r else if c x y = 0 then y :: r else y :: insU c x r
def sortU (c : α → α → Int) (l : List α) : List α := l.foldr (insU c) []
theorem insU_mem (h : TotC c) (x z : α) : ∀ l : List α, z ∈ insU c x l ↔ z = x ∨ z ∈ l
  | [] => by simp [insU]
  | y :: r => by
    unfold insU
    split
    · simp
    · split
      · rename_i h1 h2
        have := (h.eq0 x y).1 h2
        subst this
        simp
      · rw [List.mem_cons, insU_mem h x z r, List.mem_cons]
        constructor
        · rintro (h | h | h) <;> simp [h]
        · rintro (h | h | h) <;> simp [h]
theorem insU_up (h : TotC c) (x : α) : ∀ l : List α, Up c l → Up c (insU c x l)
  | [], _ => by simp [insU, Up]
  | y :: r, hl => by
    have hl' := List.pairwise_cons.1 hl
    unfold insU
    split
    · rename_i h1
      refine List.pairwise_cons.2 ⟨fun z hz => ?_, hl⟩
      rcases List.mem_cons.1 hz with rfl | hz
      · exact h1
      · exact h.trans _ _ _ h1 (hl'.1 z hz)
    · split
      · exact hl
      · rename_i h1 h2
        refine List.pairwise_cons.2 ⟨fun z hz => ?_, insU_up h x r hl'.2⟩
        rcases (insU_mem h x z r).1 hz with rfl | hz
        · have := h.neg y z; omega
        · exact hl'.1 z hz
theorem sortU_spec (h : TotC c) : ∀ l : List α, UpOf c l (sortU c l)
  | [] => ⟨by simp [sortU, Up], by simp [sortU]⟩
  | x :: l => by
    obtain ⟨h1, h2⟩ := sortU_spec h l
    refine ⟨insU_up h x _ h1, fun z => ?_⟩
    show z ∈ insU c x (sortU c l) ↔ _
    rw [insU_mem h, h2, List.mem_cons]
theorem UpOf.eq (h : TotC c) {l xs : List α} (hx : UpOf c l xs) : xs = sortU c l := hx.uniq h (sortU_spec h l) fun _ => Iff.rfl
theorem sortU_congr (h : TotC c) {l m : List α} (hm : ∀ x, x ∈ l ↔ x ∈ m) : sortU c l = sortU c m := (sortU_spec h l).uniq h (sortU_spec h m) hm

/-- One more behind. -/
theorem Up.snoc {xs : List α} {x : α} (h : Up c xs) (hx : ∀ y ∈ xs, c y x < 0) : Up c (xs ++ [x]) :=
  List.pairwise_append.2 ⟨h, by simp, fun a ha b hb => by simp at hb; subst hb; exact hx a ha⟩
/-- Rising, equals behind one another. -/
def Sorted (c : α → α → Int) (l : List α) : Prop := l.Pairwise fun x y => ¬ c y x < 0
/-- What is kept of a rising list: what is not like the one ahead. -/
theorem UpOf.keep (h : TotC c) {t xs : List α} {k : Nat} (hs : Sorted c t) (hk : k < t.length) (hx : UpOf c (t.take k) xs) (hn : k = 0 ∨ ∃ hk0 : k - 1 < t.length, c t[k - 1] t[k] ≠ 0) : UpOf c (t.take (k + 1)) (xs ++ [t[k]]) := by
  refine ⟨hx.1.snoc fun y hy => ?_, fun z => ?_⟩
  · have hy' := (hx.2 y).1 hy
    rcases hn with rfl | ⟨hk0, hn⟩
    · simp at hy'
    · obtain ⟨i, hi⟩ := List.getElem?_of_mem hy'
      have hik : i < k := by
        have := (List.getElem?_eq_some_iff.1 hi).1
        rw [List.length_take] at this; omega
      rw [List.getElem?_take, if_pos hik, List.getElem?_eq_getElem (by omega)] at hi
      have hi := Option.some.inj hi
      have hp := List.pairwise_iff_getElem.1 hs
      have h1 : c t[k - 1] t[k] < 0 := by
        have := hp (k - 1) k hk0 hk (by omega)
        have := h.neg t[k - 1] t[k]; omega
      by_cases hik' : i = k - 1
      · subst hik'; rw [← hi]; exact h1
      · have h2 := hp i (k - 1) (by omega) hk0 (by omega)
        rw [hi] at h2
        by_cases e : c y t[k - 1] = 0
        · rw [(h.eq0 _ _).1 e]; exact h1
        · exact h.trans _ _ _ (by have := h.neg y t[k - 1]; omega) h1
  · rw [List.take_add_one, List.getElem?_eq_getElem hk]
    simp only [Option.toList, List.mem_append, hx.2 z]
theorem UpOf.drop (h : TotC c) {t xs : List α} {k : Nat} (hk : k < t.length) (hx : UpOf c (t.take k) xs) (h0 : 0 < k) (hn : c (t[k - 1]'(by omega)) t[k] = 0) : UpOf c (t.take (k + 1)) xs := by
  refine ⟨hx.1, fun z => ?_⟩
  have e := (h.eq0 _ _).1 hn
  rw [List.take_add_one, List.getElem?_eq_getElem hk, hx.2 z]
  simp only [Option.toList, List.mem_append, List.mem_singleton]
  constructor
  · exact .inl
  · rintro (h | rfl)
    · exact h
    · rw [← e]
      refine List.mem_of_getElem? (i := k - 1) ?_
      rw [List.getElem?_take, if_pos (by omega), List.getElem?_eq_getElem (by omega)]

/-- Two rising lists, joined from the front: what is out, and what is left of both. -/
structure Join (c : α → α → Int) (a b out ra rb : List α) : Prop where
  up : Up c out
  ua : Up c ra
  ub : Up c rb
  la : ∀ x ∈ out, ∀ y ∈ ra, c x y < 0
  lb : ∀ x ∈ out, ∀ y ∈ rb, c x y < 0
  mem : ∀ x, (x ∈ out ∨ x ∈ ra ∨ x ∈ rb) ↔ (x ∈ a ∨ x ∈ b)
theorem Join.start {a b : List α} (ha : Up c a) (hb : Up c b) : Join c a b [] a b :=
  ⟨by simp [Up], ha, hb, by simp, by simp, by simp⟩
theorem Join.left (h : TotC c) {a b out ra rb : List α} {x : α} (hj : Join c a b out (x :: ra) rb) (hx : ∀ y, rb.head? = some y → c x y < 0) : Join c a b (out ++ [x]) ra rb := by
  have ua := List.pairwise_cons.1 hj.ua
  have hxb : ∀ y ∈ rb, c x y < 0 := fun y hy => by
    cases rb with
    | nil => simp at hy
    | cons z r =>
      have hz := hx z rfl
      rcases List.mem_cons.1 hy with rfl | hy
      · exact hz
      · exact h.trans _ _ _ hz ((List.pairwise_cons.1 hj.ub).1 y hy)
  refine ⟨hj.up.snoc fun y hy => hj.la y hy x (by simp), ua.2, hj.ub, fun y hy z hz => ?_, fun y hy z hz => ?_, fun z => ?_⟩
  · rcases List.mem_append.1 hy with hy | hy
    · exact hj.la y hy z (List.mem_cons_of_mem _ hz)
    · simp at hy; subst hy; exact ua.1 z hz
  · rcases List.mem_append.1 hy with hy | hy
    · exact hj.lb y hy z hz
    · simp at hy; subst hy; exact hxb z hz
  · rw [← hj.mem z]; simp only [List.mem_append, List.mem_cons, List.not_mem_nil, or_false]
    constructor
    · rintro ((h | h) | h | h) <;> simp [h]
    · rintro (h | (h | h) | h) <;> simp [h]
theorem Join.swap {a b out ra rb : List α} (hj : Join c a b out ra rb) : Join c b a out rb ra :=
  ⟨hj.up, hj.ub, hj.ua, hj.lb, hj.la, fun x => by
    have := hj.mem x
    constructor
    · intro hx; exact (this.1 (by rcases hx with h | h | h <;> simp [h])).symm
    · intro hx; rcases this.2 hx.symm with h | h | h <;> simp [h]⟩
theorem Join.right (h : TotC c) {a b out ra rb : List α} {x : α} (hj : Join c a b out ra (x :: rb)) (hx : ∀ y, ra.head? = some y → c x y < 0) : Join c a b (out ++ [x]) ra rb :=
  (Join.left h hj.swap hx).swap
theorem Join.both (h : TotC c) {a b out ra rb : List α} {x y : α} (hj : Join c a b out (x :: ra) (y :: rb)) (hxy : c x y = 0) : Join c a b (out ++ [x]) ra rb := by
  have e := (h.eq0 _ _).1 hxy
  subst e
  have ua := List.pairwise_cons.1 hj.ua
  have ub := List.pairwise_cons.1 hj.ub
  refine ⟨hj.up.snoc fun y hy => hj.la y hy x (by simp), ua.2, ub.2, fun y hy z hz => ?_, fun y hy z hz => ?_, fun z => ?_⟩
  · rcases List.mem_append.1 hy with hy | hy
    · exact hj.la y hy z (List.mem_cons_of_mem _ hz)
    · simp at hy; subst hy; exact ua.1 z hz
  · rcases List.mem_append.1 hy with hy | hy
    · exact hj.lb y hy z (List.mem_cons_of_mem _ hz)
    · simp at hy; subst hy; exact ub.1 z hz
  · rw [← hj.mem z]; simp only [List.mem_append, List.mem_cons, List.not_mem_nil, or_false]
    constructor
    · rintro ((h | h) | h | h) <;> simp [h]
    · rintro (h | (h | h) | h | h) <;> simp [h]
theorem Join.done {a b out : List α} (hj : Join c a b out [] []) : UpOf c (a ++ b) out :=
  ⟨hj.up, fun x => by have := hj.mem x; simpa using this⟩
/-- .. of two halves, each in order. -/
theorem UpOf.join (h : TotC c) {l m a b out : List α} (ha : UpOf c l a) (hb : UpOf c m b) (hj : Join c a b out [] []) : UpOf c (l ++ m) out :=
  ⟨hj.done.1, fun x => by rw [hj.done.2 x, List.mem_append, List.mem_append, ha.2, hb.2]⟩

theorem TotC.swo (h : TotC c) : Go.Sort.SWO (fun x y => decide (c x y < 0)) where
  irrefl x := by simpa using h.irr x
  trans x y z h1 h2 := by
    simp only [decide_eq_true_eq] at *
    exact h.trans _ _ _ h1 h2
  ntrans x y z h1 h2 := by
    simp only [decide_eq_false_iff_not] at *
    intro h3
    by_cases e : c x y = 0
    · rw [(h.eq0 _ _).1 e] at h3; exact h2 h3
    · by_cases e' : c y z = 0
      · rw [← (h.eq0 _ _).1 e'] at h3; exact h1 h3
      · have h4 := h.trans z y x (by have := h.neg y z; omega) (by have := h.neg x y; omega)
        have := h.neg x z; omega
end
end Go.Proofs.YtijdichfaofjaaaGreatDoor
/- The world behind slices.SortFunc: a row of the call's own has been written over; lists and rows. Generic; no program. -/
namespace Go.Proofs.YtijdichfaofjaaaGreatDoor
open Go.RowKit Go.Sort
set_option linter.unusedSimpArgs false
set_option linter.unusedVariables false

section
variable {α : Type} [Inhabited α]
theorem below_sort (enc : α → Value) (w : World) (blk off m : Nat) (d : Array α) (os : Array Obj) (B : Nat) (hB : B ≤ blk) (hw : B ≤ w.heap.size) : Below B w (sortWorld enc w blk off m d os) := by
  refine ⟨rfl, rfl, rfl, ?_, fun j hj => ?_⟩
  · simp [sortWorld, putRow, mapBlock, Sort.ahead, grow]
  · have hne : blk ≠ j := by omega
    unfold sortWorld
    rw [heap_grow_old _ _ (by simp [putRow, mapBlock, Sort.ahead]; omega)]
    simp [putRow, mapBlock, Sort.ahead, Array.getElem?_modify, hne]
theorem fut_sort {w0 w : World} (h : Fut w0 w) (enc : α → Value) (blk off m : Nat) (d : Array α) (os : Array Obj) (hb : w0.heap.size ≤ blk) : Fut w0 (sortWorld enc w blk off m d os) :=
  Below.trans h (below_sort enc w blk off m d os _ hb h.size)
theorem fut_sortK {w0 w : World} (h : Fut w0 w) (enc : α → List Value) (k blk off m : Nat) (d : Array α) (os : Array Obj) (hb : w0.heap.size ≤ blk) : Fut w0 (sortWorldK enc k w blk off m d os) :=
  fut_sort h id blk off m (flatK enc k d) os hb
theorem perm_of_in {d d' : Array α} (h : PermIn 0 d.size d d') : d'.toList.Perm d.toList := by
  obtain ⟨h1, _, h3⟩ := h
  rw [Array.extract_size] at h3
  rw [← h1, Array.extract_size] at h3
  exact h3
theorem sorted_of_in {β : Type} {c : β → β → Int} {f : α → β} {n : Nat} {d' : Array α} (h : SortedIn (ltOf fun x y => c (f x) (f y)) 0 n d') (hn : d'.size = n) : Sorted c (d'.toList.map f) := by
  unfold Sorted
  rw [List.pairwise_iff_getElem]
  intro i j hi hj hij
  simp only [List.length_map, Array.length_toList] at hi hj
  have h1 := h i j (Nat.zero_le _) hij (by omega)
  unfold ltOf at h1
  rw [decide_eq_false_iff_not] at h1
  rw [getElem!_pos d' j hj, getElem!_pos d' i hi] at h1
  simpa using h1
end

/-- Lists of a type with what each stands for. -/
theorem zip_sub {β γ : Type} {p : β × γ → Prop} : ∀ (vs : List β) (xs : List γ), vs.length = xs.length → (∀ (i : Nat) (v : β) (x : γ), vs[i]? = some v → xs[i]? = some x → p (v, x)) →
    ∃ d : List {q : β × γ // p q}, d.map (fun q => q.1.1) = vs ∧ d.map (fun q => q.1.2) = xs
  | [], [], _, _ => ⟨[], rfl, rfl⟩
  | [], _ :: _, h, _ => by simp at h
  | _ :: _, [], h, _ => by simp at h
  | v :: vs, x :: xs, h, hp => by
    obtain ⟨d, h1, h2⟩ := zip_sub vs xs (by simpa using h) fun i u y hi hy => hp (i + 1) u y (by simpa using hi) (by simpa using hy)
    exact ⟨⟨(v, x), hp 0 v x rfl rfl⟩ :: d, by simp [h1], by simp [h2]⟩
end Go.Proofs.YtijdichfaofjaaaGreatDoor
/- Orders, plain: numbers, lists place by place. No program. -/
namespace Go.Proofs.YtijdichfaofjaaaGreatDoor
open Go.RowKit
set_option linter.unusedSimpArgs false
set_option linter.unusedVariables false

def cmpI (a b : Int) : Int := if a < b then -1 else if b < a then 1 else 0
structure Ord3 {α : Type} (c : α → α → Int) : Prop where
  rng : ∀ x y, c x y = -1 ∨ c x y = 0 ∨ c x y = 1
  swap : ∀ x y, c y x = - c x y
  zero : ∀ x y, c x y = 0 ↔ x = y
  tr : ∀ x y z, c x y ≤ 0 → c y z ≤ 0 → c x z ≤ 0
theorem Ord3.refl {α : Type} {c : α → α → Int} (h : Ord3 c) (x : α) : c x x = 0 := (h.zero x x).2 rfl
theorem Ord3.lt {α : Type} {c : α → α → Int} (h : Ord3 c) {x y z : α} (h1 : c x y < 0) (h2 : c y z ≤ 0) : c x z < 0 := by
  have h3 := h.tr x y z (by omega) h2
  rcases Int.lt_or_eq_of_le h3 with h4 | h4
  · exact h4
  · have e := (h.zero x z).1 h4
    subst e
    have := h.swap x y
    omega
theorem Ord3.lt' {α : Type} {c : α → α → Int} (h : Ord3 c) {x y z : α} (h1 : c x y ≤ 0) (h2 : c y z < 0) : c x z < 0 := by
  have h3 := h.tr x y z h1 (by omega)
  rcases Int.lt_or_eq_of_le h3 with h4 | h4
  · exact h4
  · have e := (h.zero x z).1 h4
    subst e
    have := h.swap x y
    omega

def lex (a b : Int) : Int := if a ≠ 0 then a else b
theorem lex_ord {α β γ : Type} {c : α → α → Int} {d : β → β → Int} (hc : Ord3 c) (hd : Ord3 d) (p : γ → α) (q : γ → β) (hinj : ∀ x y, p x = p y → q x = q y → x = y) : Ord3 (fun x y : γ => lex (c (p x) (p y)) (d (q x) (q y))) := by
  constructor
  · intro x y
    unfold lex
    split
    · exact hc.rng _ _
    · exact hd.rng _ _
  · intro x y
    simp only [lex]
    rw [hc.swap (p x), hd.swap (q x)]
    by_cases h : c (p x) (p y) = 0 <;> simp [h]
  · intro x y
    simp only [lex]
    by_cases h : c (p x) (p y) = 0
    · simp only [h, ne_eq, not_true_eq_false, if_false]
      rw [hd.zero]
      exact ⟨hinj _ _ ((hc.zero _ _).1 h), fun e => by rw [e]⟩
    · simp only [ne_eq, h, not_false_eq_true, if_true]
      exact ⟨fun e => e.elim, fun e => by subst e; exact absurd (hc.refl _) h⟩
  · intro x y z h1 h2
    simp only [lex] at h1 h2 ⊢
    by_cases a : c (p x) (p y) = 0
    · by_cases b : c (p y) (p z) = 0
      · have e1 := (hc.zero _ _).1 a
        rw [e1, b]
        simp only [ne_eq, not_true_eq_false, if_false]
        rw [if_neg (by simpa using a)] at h1
        rw [if_neg (by simpa using b)] at h2
        exact hd.tr _ _ _ h1 h2
      · rw [if_pos b] at h2
        have := hc.lt' (x := p x) (y := p y) (z := p z) (by omega) (by omega)
        rw [if_pos (by omega)]
        omega
    · rw [if_pos a] at h1
      have hb : c (p y) (p z) ≤ 0 := by
        by_cases b : c (p y) (p z) = 0
        · omega
        · rwa [if_pos b] at h2
      have := hc.lt (x := p x) (y := p y) (z := p z) (by omega) hb
      rw [if_pos (by omega)]
      omega

theorem ordI : Ord3 cmpI := by
  constructor
  · intro x y; unfold cmpI; (repeat' split) <;> simp
  · intro x y; unfold cmpI; (repeat' split) <;> omega
  · intro x y; unfold cmpI; (repeat' split) <;> omega
  · intro x y z; unfold cmpI; (repeat' split) <;> omega

/-- Lists, place by place. -/
def lcmp {α : Type} (c : α → α → Int) : List α → List α → Int
  | [], [] => 0
  | [], _ :: _ => -1
  | _ :: _, [] => 1
  | x :: r, y :: q => if c x y ≠ 0 then c x y else lcmp c r q
section
variable {α : Type} {c : α → α → Int} (h : Ord3 c)
include h
theorem lcmp_rng : ∀ x y : List α, lcmp c x y = -1 ∨ lcmp c x y = 0 ∨ lcmp c x y = 1
  | [], [] => by simp [lcmp]
  | [], _ :: _ => by simp [lcmp]
  | _ :: _, [] => by simp [lcmp]
  | x :: r, y :: q => by
    simp only [lcmp]
    split
    · exact h.rng _ _
    · exact lcmp_rng r q
theorem lcmp_swap : ∀ x y : List α, lcmp c y x = - lcmp c x y
  | [], [] => rfl
  | [], _ :: _ => rfl
  | _ :: _, [] => rfl
  | x :: r, y :: q => by
    simp only [lcmp]
    rw [h.swap x y, lcmp_swap r q]
    by_cases a : c x y = 0 <;> simp [a]
theorem lcmp_zero : ∀ x y : List α, lcmp c x y = 0 ↔ x = y
  | [], [] => by simp [lcmp]
  | [], _ :: _ => by simp [lcmp]
  | _ :: _, [] => by simp [lcmp]
  | x :: r, y :: q => by
    simp only [lcmp]
    by_cases a : c x y = 0
    · simp only [a, ne_eq, not_true_eq_false, if_false, lcmp_zero r q, List.cons.injEq]
      exact ⟨fun e => ⟨(h.zero _ _).1 a, e⟩, fun e => e.2⟩
    · simp only [ne_eq, a, not_false_eq_true, if_true, List.cons.injEq]
      exact ⟨fun e => e.elim, fun e => absurd ((h.zero _ _).2 e.1) a⟩
theorem lcmp_tr : ∀ x y z : List α, lcmp c x y ≤ 0 → lcmp c y z ≤ 0 → lcmp c x z ≤ 0
  | [], _, [], _, _ => by simp [lcmp]
  | [], _, _ :: _, _, _ => by simp [lcmp]
  | _ :: _, [], _, h1, _ => by simp [lcmp] at h1
  | _ :: _, _ :: _, [], _, h2 => by simp [lcmp] at h2
  | x :: r, y :: q, z :: s, h1, h2 => by
    simp only [lcmp] at h1 h2 ⊢
    by_cases a : c x y = 0
    · by_cases b : c y z = 0
      · have e1 := (h.zero _ _).1 a
        rw [e1, b]
        simp only [ne_eq, not_true_eq_false, if_false]
        rw [if_neg (by simpa using a)] at h1
        rw [if_neg (by simpa using b)] at h2
        exact lcmp_tr r q s h1 h2
      · rw [if_pos b] at h2
        have := h.lt' (x := x) (y := y) (z := z) (by omega) (by omega)
        rw [if_pos (by omega)]
        omega
    · rw [if_pos a] at h1
      have hb : c y z ≤ 0 := by
        by_cases b : c y z = 0
        · omega
        · rwa [if_pos b] at h2
      have := h.lt (x := x) (y := y) (z := z) (by omega) hb
      rw [if_pos (by omega)]
      omega
theorem lcmp_ord : Ord3 (lcmp c) := ⟨lcmp_rng h, lcmp_swap h, lcmp_zero h, lcmp_tr h⟩
end

end Go.Proofs.YtijdichfaofjaaaGreatDoor
