/- On, OnV, DDraw -/
import Derived.Test.YtgcgmbegkfaifaaGreatDoorC24
/-
  The rule of XGraph for drawing regions in which some operations turn memory. Printed by gon.py.
-/
namespace Go.Proofs.YtgcgmbegkfaifaaGreatDoor.On
open Go.RowKit
set_option linter.unusedSimpArgs false
set_option linter.unusedVariables false

def jB (jm : Nat) (js : Tmp) (ops : Array Oper) (n : Nat) : Bool :=
  decide (jm < n) && (match ops[jm]? with | none => false | some o => decide (js ∈ o.looksAt ops)) && (List.range n).all fun k => dstAt ops k != some js || decide (k < jm)
theorem jB_spec {jm : Nat} {js : Tmp} {ops : Array Oper} {n : Nat} (h : jB jm js ops n = true) : jm < n ∧ (∀ o, ops[jm]? = some o → js ∈ o.looksAt ops) ∧ ∀ k, k < n → dstAt ops k = some js → k < jm := by
  simp only [jB, Bool.and_eq_true, decide_eq_true_eq, List.all_eq_true, List.mem_range] at h
  obtain ⟨⟨h1, h2⟩, h3⟩ := h
  refine ⟨h1, fun o ho => ?_, fun k hk hd => ?_⟩
  · rw [ho] at h2
    simpa using h2
  · have := h3 k hk
    simpa [hd] using this
/-- G: what any operation may do; H i: what the others do, while operation i has not been carried out; A i: behind it; D i j: i waits for j. J: what holds of the value in slot js behind operation jm. -/
class Mut where
  H : Nat → World → World → Prop
  A : Nat → World → World → Prop
  G : World → World → Prop
  D : Nat → Nat → Bool
  afut : ∀ {i : Nat} {a b : World}, Fut a b → A i a b
  hfut : ∀ {i : Nat} {a b : World}, Fut a b → H i a b
  htrans : ∀ {i : Nat} {a b c : World}, H i a b → H i b c → H i a c
  gfut : ∀ {a b : World}, Fut a b → G a b
  gtrans : ∀ {a b c : World}, G a b → G b c → G a c
  jm : Nat
  js : Tmp
  J : Value → World → Prop
  jkeep : ∀ {x : Value} {a b : World}, A jm a b → J x a → J x b
variable [Mut]
def G (w w' : World) : Prop := Mut.G w w'
theorem G.refl (w : World) : G w w := Mut.gfut (Fut.refl w)
theorem G.trans {a b c : World} (h : G a b) (k : G b c) : G a c := Mut.gtrans h k
def Eff (i : Nat) (w w' : World) : Prop := ((∀ j, j ≠ i → Mut.D i j = false → Mut.H j w w') ∧ ∀ j, j ≠ i → Mut.D j i = false → Mut.A j w w') ∧ G w w'
theorem Eff.of_fut {i : Nat} {w w' : World} (h : Fut w w') : Eff i w w' := ⟨⟨fun _ _ _ => Mut.hfut h, fun _ _ _ => Mut.afut h⟩, Mut.gfut h⟩
def EffJ (i : Nat) (x : Value) (w w' : World) : Prop := Eff i w w' ∧ (i = Mut.jm → Mut.J x w')
theorem Eff.refl (i : Nat) (w : World) : Eff i w w := Eff.of_fut (Fut.refl w)
/-- Of operation i no J is asked. -/
def NoJ (i : Nat) : Prop := i ≠ Mut.jm ∨ ∀ x w, Mut.J x w
theorem Eff.j {i : Nat} {x : Value} {w w' : World} (h : Eff i w w') (hj : NoJ i) : EffJ i x w w' := ⟨h, fun e => hj.elim (fun n => absurd e n) fun k => k x w'⟩

def Mono (i : Nat) : Sp → Prop
  | .det _ => True
  | .rel S => ∀ v w w', Mut.A i w w' → S v w → S v w'
theorem holds_mono {i : Nat} {s : Sp} (h : Mono i s) {v : Value} {w w' : World} (hf : Mut.A i w w') (hs : s.holds v w) : s.holds v w' := by
  cases s with
  | det c => exact hs
  | rel S => exact h v w w' hf hs

def givesUpon (i : Nat) (x : Value) (P : Program) (s : Sp) (w : World) : Result Next → Prop
  | .ok (.value v) w' => EffJ i x w w' ∧ s.holds v w'
  | .ok .skip w' => EffJ i x w w' ∧ s.holds undef w'
  | .ok (.enter f args) w' => Calls P f args w' (fun e w'' => ∃ v, e = .returned v ∧ EffJ i x w w'' ∧ s.holds v w'')
  | _ => False
def gives (i : Nat) (P : Program) (o : Oper) (a : Act) (s : Sp) (w : World) : Prop := givesUpon i (a.tmps.getD Mut.js undef) P s w ((execOp a.eval o).run P w)
def givesG (i : Nat) (P : Program) (ops : Array Oper) (o : Oper) (a : Act) (s : Sp) (w : World) : Prop :=
  if Region.wanted o (yielded ops a.tmps) = true then gives i P o a s w else EffJ i (a.tmps.getD Mut.js undef) w w ∧ s.holds undef w

def Obl (P : Program) (ops : Array Oper) (w0 : World) (a0 : Act) (K : Act → World → Prop) : List Oper → List (Option Tmp × Sp) → Prop
  | [], acc => ∀ w, G w0 w → lexFin w (fun a => Mut.J (a.tmps.getD Mut.js undef) w → K a w) acc a0
  | o :: r, acc => ∃ s : Sp, Mono acc.length s ∧ (∀ w, Mut.H acc.length w0 w → lexAct o w (fun a => givesG acc.length P ops o a s w) 0 acc a0) ∧ Obl P ops w0 a0 K r (acc ++ [(o.dst, s)])

structure GInv (ops : Array Oper) (n : Nat) (sp : Nat → Sp) (a0 : Act) (w0 : World) (vs : Nat → Value) (listed : Array Bool) (a : Act) (w : World) : Prop where
  size : a.tmps.size = a0.tmps.size
  defers : a.defers = a0.defers
  fut : G w0 w
  free : ∀ t, (∀ k, k < n → listed.getD k false = true → dstAt ops k ≠ some t) → a.tmps[t]? = a0.tmps[t]?
  held : ∀ k, k < n → listed.getD k false = true → (sp k).holds (vs k) w
  slot : ∀ k d, k < n → listed.getD k false = true → dstAt ops k = some d → a.tmps[d]? = some (vs k)
  lsize : listed.size = ops.size
  closed : ∀ j oj, ops[j]? = some oj → listed.getD j false = true → ∀ e ∈ oj.after, Region.binds .any e = true → listed.getD e.on false = true
  tail : ∀ t, n ≤ t → t < ops.size → listed.getD t true = false
  hist : ∀ i, listed.getD i false = false → Mut.H i w0 w
  jj : listed.getD Mut.jm false = true → Mut.J (a.tmps.getD Mut.js undef) w

/-- The obligations, one by one. -/
theorem Obl_split {P : Program} {ops : Array Oper} {w0 : World} {a0 : Act} {K : Act → World → Prop} : ∀ (l : List Oper) (acc : List (Option Tmp × Sp)), Obl P ops w0 a0 K l acc →
    ∃ full : List (Option Tmp × Sp), full.length = acc.length + l.length ∧ full.take acc.length = acc ∧
      (∀ j o, l[j]? = some o → ∃ s, full[acc.length + j]? = some (o.dst, s) ∧ Mono (acc.length + j) s ∧ ∀ w, Mut.H (acc.length + j) w0 w → lexAct o w (fun a => givesG (acc.length + j) P ops o a s w) 0 (full.take (acc.length + j)) a0) ∧
      (∀ w, G w0 w → lexFin w (fun a => Mut.J (a.tmps.getD Mut.js undef) w → K a w) full a0)
  | [], acc, h => ⟨acc, by simp, by simp, fun j o hj => by simp at hj, h⟩
  | o :: r, acc, h => by
    obtain ⟨s, hm, h1, h2⟩ := h
    obtain ⟨full, hl, ht, hall, hfin⟩ := Obl_split r _ h2
    have hlen : (acc ++ [(o.dst, s)]).length = acc.length + 1 := by simp
    rw [hlen] at hl ht hall
    have ht' : full.take acc.length = acc := by
      have := congrArg (List.take acc.length) ht
      simpa [List.take_take, Nat.min_eq_left (Nat.le_succ _)] using this
    refine ⟨full, by simp only [List.length_cons]; omega, ht', fun j o' hj => ?_, hfin⟩
    cases j with
    | zero =>
      simp only [List.getElem?_cons_zero, Option.some.injEq] at hj
      subst hj
      refine ⟨s, ?_, hm, fun w hw => by rw [Nat.add_zero] at hw ⊢; rw [ht']; exact h1 w hw⟩
      have := congrArg (fun x => x[acc.length]?) ht
      simpa [List.getElem?_take] using this
    | succ j =>
      have := hall j o' (by simpa using hj)
      rwa [show acc.length + 1 + j = acc.length + (j + 1) by omega] at this

section
variable {P : Program} {ops : Array Oper} {n : Nat} {sp : Nat → Sp} {a0 : Act} {w0 : World} {vs : Nat → Value} {listed : Array Bool} {a : Act} {w : World}

theorem GInv.step {full : List (Option Tmp × Sp)} {i : Nat} {Q : Exit → Act → World → Prop} {K : Act → World → Prop} (inv : GInv ops n sp a0 w0 vs listed a w) (hB : graphB ops n = true)
    (hbd : ∀ k d, dstAt ops k = some d → k < n → d < a0.tmps.size) (hjB : jB Mut.jm Mut.js ops n = true ∨ ∀ x w, Mut.J x w) (hDB : ∀ i j o, ops[i]? = some o → Mut.D i j = true → dep o j = true)
    (hsp : ∀ k, k < n → full[k]? = some (dstAt ops k, sp k)) (_hfl : full.length = n) (hmono : ∀ k, k < n → Mono k (sp k))
    (hob : ∀ o, ops[i]? = some o → ∀ w, Mut.H i w0 w → lexAct o w (fun a => givesG i P ops o a (sp i) w) 0 (full.take i) a0)
    (hi : i ∈ Region.ready .any ops listed) (hin : i < n)
    (hK : ∀ v a' w', GInv ops n sp a0 w0 (fun k => if k = i then v else vs k) (listed.setIfInBounds i true) a' w' → K a' w') : wpOp P ops Q i K a w := by
  obtain ⟨hsel, hns, hg⟩ := graphB_spec hB
  obtain ⟨hun, o, ho, hall⟩ := mem_ready.1 hi
  obtain ⟨o', ho', hedge, hdist, hlook⟩ := hg i hin
  obtain rfl : o = o' := Option.some.inj (ho.symm.trans ho')
  have hunf : listed.getD i false = false := getD_both hun
  have hdep : ∀ k, dep o k = true → listed.getD k false = true := fun k hk => by
    obtain ⟨e, he, hb, rfl⟩ := dep_spec hk
    exact hall e he hb
  have hlex := lexAct_inst vs _ 0 a0 (hob o ho w (inv.hist i hunf)) fun j d S hj hd => by
    rw [Nat.zero_add] at hd ⊢
    rw [List.getElem?_take] at hj
    split at hj
    · rename_i hji
      have h1 := hsp j (by omega)
      rw [hj] at h1
      simp only [Option.some.injEq, Prod.mk.injEq] at h1
      have := inv.held j (by omega) (hdep j hd)
      rw [← h1.2] at this
      exact this
    · cases hj
  have hslot : ∀ t ∈ o.looksAt ops, a.tmps[t]? = (putAll vs 0 (full.take i) a0).tmps[t]? := fun t ht => by
    by_cases hex : ∃ k, k < i ∧ dstAt ops k = some t
    · obtain ⟨k, hki, hkd⟩ := hex
      have hkn : k < n := by omega
      have hkl := hdep k ((hlook t ht k hkn hkd).1 hki)
      have h1 : (full.take i)[k]? = some (some t, sp k) := by rw [List.getElem?_take, if_pos hki, hsp k hkn, hkd]
      rw [inv.slot k t hkn hkl hkd, putAll_at vs t _ 0 a0 k (sp k) (hbd k t hkd hkn) h1, Nat.zero_add]
      · have h2 := inv.held k hkn hkl
        cases hs : sp k with
        | det c => rw [hs] at h2; simp only [Sp.holds] at h2; rw [h2]; rfl
        | rel S => rfl
      · intro j d s' hj hd
        rw [List.getElem?_take] at hj
        split at hj
        · rename_i hji
          rw [hsp j (by omega)] at hj
          simp only [Option.some.injEq, Prod.mk.injEq] at hj
          have hjd : dstAt ops j = some t := hj.1.trans hd
          rcases Nat.lt_trichotomy j k with h' | h' | h'
          · obtain ⟨ok, hok, _, hd2, _⟩ := hg k hkn
            exact absurd hjd (hd2 t (by simpa [dstAt, hok] using hkd) j h')
          · exact h'
          · obtain ⟨oj, hoj, _, hd2, _⟩ := hg j (by omega)
            exact absurd hkd (hd2 t (by simpa [dstAt, hoj] using hjd) k h')
        · cases hj
    · rw [putAll_other]
      · refine inv.free t fun k hkn hkl hkd => ?_
        rcases Nat.lt_trichotomy k i with h' | h' | h'
        · exact hex ⟨k, h', hkd⟩
        · subst h'; rw [hunf] at hkl; cases hkl
        · obtain ⟨ok, hok, hdk⟩ := (hlook t ht k hkn hkd).2 h'
          obtain ⟨e, he, hb, hei⟩ := dep_spec hdk
          have := inv.closed k ok hok hkl e he hb
          rw [hei, hunf] at this
          cases this
      · intro d s hm hd
        obtain ⟨j, hj⟩ := List.getElem?_of_mem hm
        rw [List.getElem?_take] at hj
        split at hj
        · rename_i hji
          rw [hsp j (by omega)] at hj
          simp only [Option.some.injEq, Prod.mk.injEq] at hj
          exact hex ⟨j, hji, hj.1.trans hd⟩
        · cases hj
  have hexec : execOp a.eval o = execOp (putAll vs 0 (full.take i) a0).eval o := execOp_congr o (fun cs b => Region.noSelect_spec hsel i o cs b ho) fun x hx => by
    cases x with
    | tmp t =>
      have := hslot t (List.mem_append_left _ (List.mem_filterMap.2 ⟨.tmp t, by simpa using hx, rfl⟩))
      simp only [Act.eval, Array.getD_eq_getD_getElem?, this]
    | _ => rfl
  have hwant : Region.wanted o (yielded ops a.tmps) = Region.wanted o (yielded ops (putAll vs 0 (full.take i) a0).tmps) := by
    unfold Region.wanted
    cases hgd : o.guard with
    | none => rfl
    | some gw =>
      obtain ⟨g, want⟩ := gw
      have hy : yielded ops a.tmps g = yielded ops (putAll vs 0 (full.take i) a0).tmps g := by
        unfold yielded
        cases ht : (ops[g]?).bind (·.dst) with
        | none => rfl
        | some t =>
          have := hslot t (by simp [Oper.looksAt, hgd, ht])
          simp only [Option.bind_some, this]
      simp only [hy]
  have hdi : dstAt ops i = o.dst := by simp [dstAt, ho]
  have hnW : ∀ k, listed.getD k false = true → Mut.D k i = false := fun k hl => by
    cases hd : Mut.D k i with
    | false => rfl
    | true =>
      have hks : k < ops.size := by
        rw [← inv.lsize]
        rcases Nat.lt_or_ge k listed.size with h' | h'
        · exact h'
        · rw [Array.getD_eq_getD_getElem?, Array.getElem?_eq_none h'] at hl; cases hl
      obtain ⟨e, he, hb, hei⟩ := dep_spec (hDB k i _ (Array.getElem?_eq_getElem hks) hd)
      have := inv.closed k _ (Array.getElem?_eq_getElem hks) hl e he hb
      rw [hei, hunf] at this
      cases this
  have hnew : ∀ v w', EffJ i ((putAll vs 0 (full.take i) a0).tmps.getD Mut.js undef) w w' → (sp i).holds v w' → GInv ops n sp a0 w0 (fun k => if k = i then v else vs k) (listed.setIfInBounds i true) (a.put o.dst v) w' := fun v w' hf hv => by
    have hil : i < listed.size := by rw [inv.lsize]; omega
    have hset : ∀ k, k ≠ i → (listed.setIfInBounds i true).getD k false = listed.getD k false := fun k hk => getD_set_ne false (Ne.symm hk)
    refine ⟨by rw [put_size]; exact inv.size, by rw [put_defers']; exact inv.defers, inv.fut.trans hf.1.2, fun t ht => ?_, fun k hk hl => ?_, fun k d hk hl hd => ?_, by simp [inv.lsize], fun j oj hj hl e he hb => ?_, fun t ht ht' => by rw [getD_set_ne true (by omega)]; exact inv.tail t ht ht', fun j hj => ?_, fun hj => ?_⟩
    · have hit : o.dst ≠ some t := by rw [← hdi]; exact ht i hin (by simp [hil])
      rw [put_other _ _ _ _ hit]
      refine inv.free t fun k hk hl => ht k hk ?_
      by_cases hki : k = i
      · subst hki; simp [hil]
      · rw [hset k hki]; exact hl
    · by_cases hki : k = i
      · subst hki; simpa using hv
      · simp only [hki, if_false]
        rw [hset k hki] at hl
        exact holds_mono (hmono k hk) (hf.1.1.2 k hki (hnW k hl)) (inv.held k hk hl)
    · by_cases hki : k = i
      · subst hki
        have hod : o.dst = some d := by rw [← hdi]; exact hd
        rw [hod]
        show _ = some (if k = k then v else vs k)
        rw [if_pos rfl]
        exact put_same _ _ _ (by rw [inv.size]; exact hbd k d hd hk)
      · simp only [hki, if_false]
        rw [hset k hki] at hl
        rw [put_other]
        · exact inv.slot k d hk hl hd
        · intro hod
          have hid : dstAt ops i = some d := hdi.trans hod
          rcases Nat.lt_or_ge k i with h' | h'
          · exact hdist d hod k h' hd
          · obtain ⟨ok, hok, _, hd2, _⟩ := hg k hk
            exact hd2 d (by simpa [dstAt, hok] using hd) i (by omega) hid
    · by_cases hij : i = j
      · subst hij
        have : oj = o := Option.some.inj (hj.symm.trans ho)
        subst this
        exact getD_set_true (hall e he hb)
      · rw [getD_set_ne false hij] at hl
        exact getD_set_true (inv.closed j oj hj hl e he hb)
    · have hji : j ≠ i := fun e => by subst e; simp [hil] at hj
      rw [hset j hji] at hj
      exact Mut.htrans (inv.hist j hj) (hf.1.1.1 j hji (by
        cases hd : Mut.D i j with
        | false => rfl
        | true => have := hdep j (hDB i j o ho hd); rw [hj] at this; cases this))
    · rcases hjB with hjB | hjB
      · obtain ⟨j1, j2, j3⟩ := jB_spec hjB
        by_cases hji : i = Mut.jm
        · have hjs : o.dst ≠ some Mut.js := fun e => by have := j3 i hin (hdi.trans e); omega
          have hsl := hslot Mut.js (j2 o (by rw [← hji]; exact ho))
          have h7 := hf.2 hji
          rw [Array.getD_eq_getD_getElem?] at h7 ⊢
          rw [put_other _ _ _ _ hjs, hsl]
          exact h7
        · rw [hset _ (Ne.symm hji)] at hj
          have hjs : o.dst ≠ some Mut.js := fun e => by
            have hlt := j3 i hin (hdi.trans e)
            obtain ⟨oj, hoj, _, _, hl5⟩ := hg Mut.jm j1
            obtain ⟨e', he', hb', hei⟩ := dep_spec ((hl5 Mut.js (j2 oj hoj) i hin (hdi.trans e)).1 hlt)
            have := inv.closed Mut.jm oj hoj hj e' he' hb'
            rw [hei, hunf] at this
            cases this
          have h7 := inv.jj hj
          rw [Array.getD_eq_getD_getElem?] at h7 ⊢
          rw [put_other _ _ _ _ hjs]
          exact Mut.jkeep (hf.1.1.2 _ (Ne.symm hji) (hnW _ hj)) h7
      · exact hjB _ _
  unfold wpOp
  simp only [ho]
  unfold givesG at hlex
  rw [← hwant] at hlex
  split
  · rename_i hw
    rw [if_pos hw] at hlex
    refine .inl ?_
    unfold gives at hlex
    rw [← hexec] at hlex
    unfold Oper.wp
    generalize (execOp a.eval o).run P w = r at hlex ⊢
    cases r with
    | ok nx w' =>
      cases nx <;> simp only [givesUpon] at hlex <;> simp only [Oper.upon]
      case value u => exact hK u _ _ (hnew u w' hlex.1 hlex.2)
      case skip => exact hK undef _ _ (hnew undef w' hlex.1 hlex.2)
      case enter f args =>
        refine Calls.mono hlex fun e w'' he => ?_
        obtain ⟨v, rfl, hf, hv⟩ := he
        exact hK v _ _ (hnew v w'' hf hv)
    | halt x w' => simp only [givesUpon] at hlex
  · rename_i hw
    rw [if_neg hw] at hlex
    exact hK undef _ _ (hnew undef w hlex.1 hlex.2)
end

theorem wp_region_graph {P : Program} {id : Nat} {Q : Exit → Act → World → Prop} {a0 : Act} {w : World} {l : List Oper} (n : Nat) (hm : P.follows .mixedOrders = true)
    (hB : (graphB l.toArray n && tailB l.toArray n) = true) (hsz : ((List.range n).all fun k => match dstAt l.toArray k with | some d => decide (d < a0.tmps.size) | none => true) = true) (hjB : jB Mut.jm Mut.js l.toArray n = true ∨ ∀ x w, Mut.J x w) (hDB : ∀ i j o, l.toArray[i]? = some o → Mut.D i j = true → dep o j = true)
    (h : Obl P l.toArray w.drew a0 (wpList P l.toArray Q (l.drop n)) (l.take n) []) : (Code.region id l.toArray true).wp P Q a0 w := by
  simp only [Bool.and_eq_true, tailB] at hB
  obtain ⟨hG, hS, hseq⟩ := hB
  obtain ⟨hsel, hns, hg⟩ := graphB_spec hG
  have hnl : n ≤ l.length := by simpa using hns
  have hbd : ∀ k d, dstAt l.toArray k = some d → k < n → d < a0.tmps.size := fun k d hd hk => by
    have := List.all_eq_true.1 hsz k (List.mem_range.2 hk)
    simpa [hd] using this
  obtain ⟨full, hfl, _, hob, hfin⟩ := Obl_split _ _ h
  simp only [List.length_nil, Nat.zero_add] at hfl hob
  have htl : (l.take n).length = n := by simp; omega
  rw [htl] at hfl
  -- the specifications
  obtain ⟨sp, hsp⟩ : ∃ sp : Nat → Sp, ∀ k, sp k = ((full[k]?).map (·.2)).getD (.det undef) := ⟨_, fun _ => rfl⟩
  have hfull : ∀ k, k < n → ∃ o, l[k]? = some o ∧ full[k]? = some (dstAt l.toArray k, sp k) ∧ Mono k (sp k) ∧
      ∀ w', Mut.H k w.drew w' → lexAct o w' (fun a => givesG k P l.toArray o a (sp k) w') 0 (full.take k) a0 := fun k hk => by
    have hlk : l[k]? = some (l[k]'(by omega)) := List.getElem?_eq_getElem (by omega)
    obtain ⟨s, hs, hmono, hlex⟩ := hob k _ (by rw [List.getElem?_take, if_pos hk]; exact hlk)
    have hspk : sp k = s := by rw [hsp, hs]; rfl
    refine ⟨_, hlk, ?_, by rw [hspk]; exact hmono, by rw [hspk]; exact hlex⟩
    rw [hs, hspk]
    simp [dstAt, hlk]
  refine wp_region_any hm ?_
  have main : ∀ (f : Nat) (listed : Array Bool) (a : Act) (w' : World) (vs : Nat → Value), GInv l.toArray n sp a0 w.drew vs listed a w' → unl listed n = f →
      wpAny P .any l.toArray Q (f + (l.length - n)) listed a w' := by
    intro f
    induction f with
    | zero =>
      intro listed a w' vs inv hf
      rw [Nat.zero_add]
      have hlisted : listed = headDone n l.length := by
        refine Array.ext_getElem? fun t => ?_
        by_cases ht : t < l.length
        · have hts : t < listed.size := by rw [inv.lsize]; simpa using ht
          have h2 : (headDone n l.length)[t]? = some (decide (t < n)) := by simp [headDone, ht]
          rw [h2, Array.getElem?_eq_getElem hts]
          by_cases htn : t < n
          · have := unl_zero n hf t htn
            simp [hts] at this
            simp [htn, this]
          · have := inv.tail t (by omega) (by simpa using ht)
            simp [hts] at this
            simp [htn, this]
        · rw [Array.getElem?_eq_none (by rw [inv.lsize]; simp; omega), Array.getElem?_eq_none (by simp [headDone]; omega)]
      have hlast := lexFin_inst (K := fun a => Mut.J (a.tmps.getD Mut.js undef) w' → wpList P l.toArray Q (l.drop n) a w') vs full 0 a0 (hfin w' inv.fut) fun j d S hj => by
        rw [Nat.zero_add]
        have hjn : j < n := by rw [← hfl]; exact (List.getElem?_eq_some_iff.1 hj).1
        obtain ⟨_, _, h1, _, _⟩ := hfull j hjn
        rw [hj] at h1
        simp only [Option.some.injEq, Prod.mk.injEq] at h1
        have := inv.held j hjn (unl_zero n hf j hjn)
        rw [← h1.2] at this
        exact this
      have hact : a = putAll vs 0 full a0 := by
        refine act_ext (fun t => ?_) ?_
        · by_cases hex : ∃ k, k < n ∧ dstAt l.toArray k = some t
          · obtain ⟨k, hk, hkd⟩ := hex
            obtain ⟨_, _, h1, _, _⟩ := hfull k hk
            rw [hkd] at h1
            rw [inv.slot k t hk (unl_zero n hf k hk) hkd, putAll_at vs t full 0 a0 k (sp k) (hbd k t hkd hk) h1, Nat.zero_add]
            · have h2 := inv.held k hk (unl_zero n hf k hk)
              cases hs : sp k with
              | det c => rw [hs] at h2; simp only [Sp.holds] at h2; rw [h2]; rfl
              | rel S => rfl
            · intro j d s' hj hd
              have hjn : j < n := by rw [← hfl]; exact (List.getElem?_eq_some_iff.1 hj).1
              obtain ⟨_, _, h3, _, _⟩ := hfull j hjn
              rw [hj] at h3
              simp only [Option.some.injEq, Prod.mk.injEq] at h3
              have hjd : dstAt l.toArray j = some t := h3.1.symm.trans hd
              rcases Nat.lt_trichotomy j k with h' | h' | h'
              · obtain ⟨ok, hok, _, hd2, _⟩ := hg k hk
                exact absurd hjd (hd2 t (by simpa [dstAt, hok] using hkd) j h')
              · exact h'
              · obtain ⟨oj, hoj, _, hd2, _⟩ := hg j hjn
                exact absurd hkd (hd2 t (by simpa [dstAt, hoj] using hjd) k h')
          · rw [inv.free t fun k hk _ hd => hex ⟨k, hk, hd⟩, putAll_other]
            intro d s hmem hd
            obtain ⟨j, hj⟩ := List.getElem?_of_mem hmem
            have hjn : j < n := by rw [← hfl]; exact (List.getElem?_eq_some_iff.1 hj).1
            obtain ⟨_, _, h3, _, _⟩ := hfull j hjn
            rw [hj] at h3
            simp only [Option.some.injEq, Prod.mk.injEq] at h3
            exact hex ⟨j, hjn, h3.1.symm.trans hd⟩
        · rw [inv.defers]
          have : ∀ (acc : List (Option Tmp × Sp)) (k : Nat) (b : Act), (putAll vs k acc b).defers = b.defers := by
            intro acc
            induction acc with
            | nil => intro k b; rfl
            | cons x r ih =>
              intro k b
              obtain ⟨d, s⟩ := x
              cases s <;> simp only [putAll] <;> rw [ih, put_defers']
          rw [this]
      rw [← hact] at hlast
      replace hlast := hlast (hjB.elim (fun h => inv.jj (unl_zero n hf _ (jB_spec h).1)) fun h => h _ _)
      have := wpAny_of_seq (md := .any) (P := P) (Q' := Q) (l.drop n) n listed a w' (fun j => by simp [List.getElem?_drop])
        (by rw [hlisted, List.length_drop]; simpa using hseq) hlast
      rwa [List.length_drop] at this
    | succ f ih =>
      intro listed a w' vs inv hf
      obtain ⟨i0, hi0, hi1, hi2⟩ := unl_some n (by rw [hf]; omega)
      have hils : ∀ i, i < n → i < listed.size := fun i hi => by rw [inv.lsize]; simp; omega
      have hready : i0 ∈ Region.ready .any l.toArray listed := by
        obtain ⟨o, ho, hedge, _⟩ := hg i0 hi0
        exact mem_ready.2 ⟨getD_in (hils i0 hi0) hi1, o, ho, fun e he hb => hi2 _ (hedge e he hb)⟩
      rw [show f + 1 + (l.length - n) = (f + (l.length - n)) + 1 by omega]
      refine ⟨fun h0 => (by rw [h0] at hready; cases hready), fun i hi => ?_⟩
      have hin : i < n := by
        rcases Nat.lt_or_ge i n with h' | h'
        · exact h'
        · exfalso
          have hisz : i < l.toArray.size := by
            obtain ⟨_, o, ho, _⟩ := mem_ready.1 hi
            exact (Array.getElem?_eq_some_iff.1 ho).1
          simp only [sinkB, Bool.or_eq_true, decide_eq_true_eq, Bool.and_eq_true] at hS
          rcases hS with hS | ⟨hs, hc⟩
          · omega
          · exact tail_waits hs hc (by omega) ⟨inv.lsize, inv.closed, inv.tail⟩ _ i0 rfl hi0 (getD_in (hils i0 hi0) hi1) i h' hi
      refine inv.step (full := full) (Q := Q) hG hbd hjB hDB (fun k hk => (by obtain ⟨_, _, h1, _, _⟩ := hfull k hk; exact h1)) hfl (fun k hk => (by obtain ⟨_, _, _, h1, _⟩ := hfull k hk; exact h1))
        (fun o ho => (by
          obtain ⟨o', ho', _, _, h1⟩ := hfull i hin
          have : o = o' := Option.some.inj ((by simpa using ho.symm : some o = l[i]?).trans ho')
          subst this
          exact h1)) hi hin fun v a' w'' inv' => ih _ a' w'' _ inv' ?_
      have hun := getD_both (mem_ready.1 hi).1
      have := unl_set hun (hils i hin) n hin
      omega
  have := main n (Array.replicate l.toArray.size false) a0 w.drew (fun _ => undef)
    ⟨rfl, rfl, G.refl _, fun _ _ => rfl, fun k _ hl => (by rw [getD_replicate_false] at hl; cases hl), fun k _ _ hl => (by rw [getD_replicate_false] at hl; cases hl), by simp,
      fun j oj _ hl => (by rw [getD_replicate_false] at hl; cases hl), fun t _ ht => getD_in (by simpa using ht) (getD_replicate_false _ _), fun i _ => Mut.hfut (Fut.refl _), fun hl => (by rw [getD_replicate_false] at hl; cases hl)⟩ (unl_none _ _)
  rwa [show n + (l.length - n) = l.toArray.size by simp; omega] at this

def Run (P : Program) (ops : Array Oper) (w0 : World) (K : Act → World → Prop) : Nat → List Oper → List Sp → Act → List (Nat × (World → Prop)) → Prop
  | _, [], _, a, known => ∀ w, G w0 w → AllFacts known w → Mut.J (a.tmps.getD Mut.js undef) w → K a w
  | i, o :: r, .det c :: sps, a, known => (∀ w, Mut.H i w0 w → Facts known o w → givesG i P ops o a (.det c) w) ∧ Run P ops w0 K (i + 1) r sps (a.put o.dst c) known
  | i, o :: r, .rel S :: sps, a, known => (∀ v w w', Mut.A i w w' → S v w → S v w') ∧ (∀ w, Mut.H i w0 w → Facts known o w → givesG i P ops o a (.rel S) w) ∧
      ∀ v, Run P ops w0 K (i + 1) r sps (a.put o.dst v) (known ++ [(i, S v)])
  | _, _ :: _, [], _, _ => False

theorem Obl_of_run {P : Program} {ops : Array Oper} {w0 : World} {a0 : Act} {K : Act → World → Prop} : ∀ (l : List Oper) (sps : List Sp) (acc : List (Option Tmp × Sp)),
    (∀ v : Nat → Value, Run P ops w0 K acc.length l sps (putAll v 0 acc a0) (knownOf v 0 acc)) → Obl P ops w0 a0 K l acc
  | [], sps, acc, h => fun w hw => lexFin_intro acc 0 a0 fun v hv => by
    have := h v
    simp only [Run] at this
    exact this w hw (allFacts_of acc 0 hv)
  | o :: r, [], acc, h => by have := h (fun _ => undef); simp only [Run] at this
  | o :: r, .det c :: sps, acc, h => by
    refine ⟨.det c, trivial, fun w hw => lexAct_intro acc 0 a0 fun v hv => ?_, Obl_of_run r sps _ fun v => ?_⟩
    · have := h v
      simp only [Run] at this
      exact this.1 w hw (facts_of acc 0 hv)
    · have := (h v)
      simp only [Run] at this
      have h2 := this.2
      rw [putAll_append, knownOf_append, List.length_append]
      simpa [putAll, knownOf] using h2
  | o :: r, .rel S :: sps, acc, h => by
    refine ⟨.rel S, ?_, fun w hw => lexAct_intro acc 0 a0 fun v hv => ?_, Obl_of_run r sps _ fun v => ?_⟩
    · have := h (fun _ => undef)
      simp only [Run] at this
      exact this.1
    · have := h v
      simp only [Run] at this
      exact this.2.1 w hw (facts_of acc 0 hv)
    · have := h v
      simp only [Run] at this
      have h2 := this.2.2 (v acc.length)
      rw [putAll_append, knownOf_append, List.length_append]
      simpa [putAll, knownOf] using h2

/-- THE RULE. 'n': how many operations the head has; 'shape': of each of these whether its value is fixed ('.d') or what is known of it ('.r S'). -/
theorem wp_graph {P : Program} {id : Nat} {Q : Exit → Act → World → Prop} {a0 : Act} {w : World} {l : List Oper} (n : Nat) (shape : List Sh) (hm : P.follows .mixedOrders = true)
    (hB : (graphB l.toArray n && tailB l.toArray n) = true) (hsz : ((List.range n).all fun k => match dstAt l.toArray k with | some d => decide (d < a0.tmps.size) | none => true) = true) (hjB : jB Mut.jm Mut.js l.toArray n = true ∨ ∀ x w, Mut.J x w) (hDB : ∀ i j o, l.toArray[i]? = some o → Mut.D i j = true → dep o j = true)
    (h : Exs (fun sps => Run P l.toArray w.drew (wpList P l.toArray Q (l.drop n)) 0 (l.take n) sps a0 []) shape) : (Code.region id l.toArray true).wp P Q a0 w := by
  obtain ⟨sps, hs⟩ := Exs_some shape h
  exact wp_region_graph n hm hB hsz hjB hDB (Obl_of_run _ sps [] fun _ => hs)

section
variable {P : Program} {ops : Array Oper} {w0 : World} {K : Act → World → Prop} {i : Nat} {o : Oper} {r : List Oper} {sps : List Sp} {a : Act} {known : List (Nat × (World → Prop))}
/-- An operation that makes nothing. -/
theorem Run.val {c : Value} (hj : NoJ i) (hg : o.guard = none) (h : ∀ w, Mut.H i w0 w → Facts known o w → (execOp a.eval o).run P w = .ok (.value c) w) (k : Run P ops w0 K (i + 1) r sps (a.put o.dst c) known) :
    Run P ops w0 K i (o :: r) (.det c :: sps) a known := by
  refine ⟨fun w hw hf => ?_, k⟩
  unfold givesG
  rw [if_pos (wanted_none hg _)]
  unfold gives
  rw [h w hw hf]
  exact ⟨(Eff.refl i w).j hj, rfl⟩
/-- The same behind a guard that lets it go on. -/
theorem Run.valG {c : Value} (hj : NoJ i) (hg : Region.wanted o (yielded ops a.tmps) = true) (h : ∀ w, Mut.H i w0 w → Facts known o w → (execOp a.eval o).run P w = .ok (.value c) w) (k : Run P ops w0 K (i + 1) r sps (a.put o.dst c) known) :
    Run P ops w0 K i (o :: r) (.det c :: sps) a known := by
  refine ⟨fun w hw hf => ?_, k⟩
  unfold givesG
  rw [if_pos hg]
  unfold gives
  rw [h w hw hf]
  exact ⟨(Eff.refl i w).j hj, rfl⟩
theorem Run.skip (hj : NoJ i) (hg : Region.wanted o (yielded ops a.tmps) = false) (k : Run P ops w0 K (i + 1) r sps (a.put o.dst undef) known) :
    Run P ops w0 K i (o :: r) (.det undef :: sps) a known := by
  refine ⟨fun w hw hf => ?_, k⟩
  unfold givesG
  rw [if_neg (by rw [hg]; exact Bool.false_ne_true)]
  exact ⟨(Eff.refl i w).j hj, rfl⟩
/-- A call whose answer is known. -/
theorem Run.call {c : Value} {f : FuncId} {args : Array Value} (hj : NoJ i) (hg : Region.wanted o (yielded ops a.tmps) = true) (h : ∀ w, Mut.H i w0 w → (execOp a.eval o).run P w = .ok (.enter f args) w)
    (hc : ∀ w, Mut.H i w0 w → Facts known o w → Calls P f args w fun e w' => e = .returned c ∧ Fut w w') (k : Run P ops w0 K (i + 1) r sps (a.put o.dst c) known) :
    Run P ops w0 K i (o :: r) (.det c :: sps) a known := by
  refine ⟨fun w hw hf => ?_, k⟩
  unfold givesG
  rw [if_pos hg]
  unfold gives
  rw [h w hw]
  exact (hc w hw hf).mono fun e w' ⟨he, hf'⟩ => ⟨c, he, (Eff.of_fut hf').j hj, rfl⟩
/-- A call of whose answer something is known. -/
theorem Run.callR {S : Value → World → Prop} {f : FuncId} {args : Array Value} (hj : NoJ i) (hg : Region.wanted o (yielded ops a.tmps) = true) (hm : ∀ v w w', Mut.A i w w' → S v w → S v w') (h : ∀ w, Mut.H i w0 w → (execOp a.eval o).run P w = .ok (.enter f args) w)
    (hc : ∀ w, Mut.H i w0 w → Facts known o w → Calls P f args w fun e w' => ∃ v, e = .returned v ∧ Fut w w' ∧ S v w') (k : ∀ v, Run P ops w0 K (i + 1) r sps (a.put o.dst v) (known ++ [(i, S v)])) :
    Run P ops w0 K i (o :: r) (.rel S :: sps) a known := by
  refine ⟨hm, fun w hw hf => ?_, k⟩
  unfold givesG
  rw [if_pos hg]
  unfold gives
  rw [h w hw]
  exact (hc w hw hf).mono fun e w' ⟨v, he, hf', hs⟩ => ⟨v, he, (Eff.of_fut hf').j hj, hs⟩
/-- An operation that makes memory: of its value something is known. -/
theorem Run.valR {S : Value → World → Prop} (hj : NoJ i) (hg : Region.wanted o (yielded ops a.tmps) = true) (hm : ∀ v w w', Mut.A i w w' → S v w → S v w')
    (h : ∀ w, Mut.H i w0 w → Facts known o w → ∃ v w', (execOp a.eval o).run P w = .ok (.value v) w' ∧ Fut w w' ∧ S v w') (k : ∀ v, Run P ops w0 K (i + 1) r sps (a.put o.dst v) (known ++ [(i, S v)])) :
    Run P ops w0 K i (o :: r) (.rel S :: sps) a known := by
  refine ⟨hm, fun w hw hf => ?_, k⟩
  unfold givesG
  rw [if_pos hg]
  unfold gives
  obtain ⟨v, w', he, h1, h2⟩ := h w hw hf
  rw [he]
  exact ⟨(Eff.of_fut h1).j hj, h2⟩
theorem Run.done (h : ∀ w, G w0 w → AllFacts known w → Mut.J (a.tmps.getD Mut.js undef) w → K a w) : Run P ops w0 K i [] sps a known := h
end

end Go.Proofs.YtgcgmbegkfaifaaGreatDoor.On
namespace Go.Proofs.YtgcgmbegkfaifaaGreatDoor.On
/-- One operation turns memory. -/
abbrev Mut.one (m : Nat) (R : World → World → Prop) (hf : ∀ {a b : World}, Fut a b → R a b) (ht : ∀ {a b c : World}, R a b → R b c → R a c) : Mut where
  H i := if i = m then Fut else R
  A i := if i = m then Fut else R
  G := R
  D _ _ := false
  hfut := fun {i} {a b} h => by
    show (if i = m then Fut else R) a b
    split
    · exact h
    · exact hf h
  afut := fun {i} {a b} h => by
    show (if i = m then Fut else R) a b
    split
    · exact h
    · exact hf h
  htrans := fun {i} {a b c} h k => by
    show (if i = m then Fut else R) a c
    change (if i = m then Fut else R) a b at h
    change (if i = m then Fut else R) b c at k
    split at h
    · rename_i e; rw [if_pos e] at k ⊢; exact Fut.trans h k
    · rename_i e; rw [if_neg e] at k ⊢; exact ht h k
  gfut := hf
  gtrans := ht
  jm := 0
  js := 0
  J _ _ := True
  jkeep _ _ := trivial
theorem Eff.one {m : Nat} {R : World → World → Prop} {hf : ∀ {a b : World}, Fut a b → R a b} {ht : ∀ {a b c : World}, R a b → R b c → R a c} {w w' : World} (h : R w w') : @Eff (Mut.one m R hf ht) m w w' :=
  ⟨⟨fun j hj _ => (by show (if j = m then Fut else R) w w'; rw [if_neg hj]; exact h), fun j hj _ => (by show (if j = m then Fut else R) w w'; rw [if_neg hj]; exact h)⟩, h⟩
section
variable {m : Nat} {R : World → World → Prop} {hf : ∀ {a b : World}, Fut a b → R a b} {ht : ∀ {a b c : World}, R a b → R b c → R a c} {s : Tmp} {K : Value → World → Prop} {hK : ∀ {x : Value} {a b : World}, Fut a b → K x a → K x b} {w w' : World}
end
/-- Two operations turn memory, n behind m: m does B, n does C. -/
abbrev Mut.two (m n : Nat) (B C R : World → World → Prop) (hB : ∀ {a b : World}, Fut a b → B a b) (hC : ∀ {a b : World}, Fut a b → C a b) (hf : ∀ {a b : World}, Fut a b → R a b)
    (tB : ∀ {a b c : World}, B a b → B b c → B a c) (ht : ∀ {a b c : World}, R a b → R b c → R a c) : Mut where
  H i := if i = m then Fut else if i = n then B else R
  A i := if i = m then C else if i = n then Fut else R
  G := R
  D i j := i == n && j == m
  hfut := fun {i} {a b} h => by
    show (if i = m then Fut else if i = n then B else R) a b
    split
    · exact h
    · split
      · exact hB h
      · exact hf h
  afut := fun {i} {a b} h => by
    show (if i = m then C else if i = n then Fut else R) a b
    split
    · exact hC h
    · split
      · exact h
      · exact hf h
  htrans := fun {i} {a b c} h k => by
    show (if i = m then Fut else if i = n then B else R) a c
    change (if i = m then Fut else if i = n then B else R) a b at h
    change (if i = m then Fut else if i = n then B else R) b c at k
    by_cases e : i = m
    · rw [if_pos e] at h k ⊢; exact Fut.trans h k
    · rw [if_neg e] at h k ⊢
      by_cases e2 : i = n
      · rw [if_pos e2] at h k ⊢; exact tB h k
      · rw [if_neg e2] at h k ⊢; exact ht h k
  gfut := hf
  gtrans := ht
  jm := 0
  js := 0
  J _ _ := True
  jkeep _ _ := trivial
section
variable {m n : Nat} {B C R : World → World → Prop} {hB : ∀ {a b : World}, Fut a b → B a b} {hC : ∀ {a b : World}, Fut a b → C a b} {hf : ∀ {a b : World}, Fut a b → R a b}
    {tB : ∀ {a b c : World}, B a b → B b c → B a c} {ht : ∀ {a b c : World}, R a b → R b c → R a c} {w w' : World}
end
theorem one_dep {m : Nat} {R : World → World → Prop} {hf : ∀ {a b : World}, Fut a b → R a b} {ht : ∀ {a b c : World}, R a b → R b c → R a c} {ops : Array Oper} : ∀ i j o, ops[i]? = some o → @Mut.D (Mut.one m R hf ht) i j = true → dep o j = true := fun i j o ho hd => by
  have hd' : false = true := hd
  cases hd'
end Go.Proofs.YtgcgmbegkfaifaaGreatDoor.On
/- The rule of XOn: an operation of the region's own that turns memory, of whose value something is known. -/
namespace Go.Proofs.YtgcgmbegkfaifaaGreatDoor.On
open Go.RowKit
set_option linter.unusedSimpArgs false
set_option linter.unusedVariables false
variable [Mut] {P : Program} {ops : Array Oper} {o : Oper} {a : Act} {w0 : World} {K : Act → World → Prop} {i : Nat} {r : List Oper} {sps : List Sp} {known : List (Nat × (World → Prop))}
theorem Run.mutVR {S : Value → World → Prop} (hj : NoJ i) (hg : Region.wanted o (yielded ops a.tmps) = true) (hm : ∀ v w w', Mut.A i w w' → S v w → S v w')
    (h : ∀ w, Mut.H i w0 w → Facts known o w → ∃ v w', (execOp a.eval o).run P w = .ok (.value v) w' ∧ Eff i w w' ∧ S v w') (k : ∀ v, Run P ops w0 K (i + 1) r sps (a.put o.dst v) (known ++ [(i, S v)])) :
    Run P ops w0 K i (o :: r) (.rel S :: sps) a known := by
  refine ⟨hm, fun w hw hf => ?_, k⟩
  unfold givesG
  rw [if_pos hg]
  unfold gives
  obtain ⟨v, w', he, h1, h2⟩ := h w hw hf
  rw [he]
  exact ⟨h1.j hj, h2⟩
end Go.Proofs.YtgcgmbegkfaifaaGreatDoor.On
/- depend.draw: the callback. -/
namespace Go.Proofs.YtgcgmbegkfaifaaGreatDoor
open Go.RowKit Go.WideMaps Go.Maps
set_option linter.unusedSimpArgs false
set_option linter.unusedVariables false

theorem sucs_push_len {G : Gr} (hn : G.names.Nodup) (s t x : ByteArray) : (sucs (pushG G s t) x).length ≤ (sucs G x).length + 1 := by
  by_cases hx : x ∈ G.names
  · obtain ⟨i, S, hi⟩ := names_at hx
    have h1 : (pushG G s t)[i]? = some (x, if x = s then S ++ [t] else S) := by
      unfold pushG
      rw [List.getElem?_map, hi]
      simp only [Option.map_some]
      split <;> rfl
    rw [sucs_at (by rw [pushG_names]; exact hn) h1, sucs_at hn hi]
    split
    · simp
    · omega
  · rw [sucs_none (by rw [pushG_names]; exact hx)]
    simp
theorem addG_nodup {G : Gr} (hn : G.names.Nodup) (s : ByteArray) : (addG G s).names.Nodup := by
  unfold addG
  split
  · exact hn
  · rename_i h
    unfold Gr.names at hn h ⊢
    rw [List.map_append]
    refine List.nodup_append.2 ⟨hn, by simp, fun a ha b hb e => ?_⟩
    simp at hb
    subst hb; subst e
    exact h ha
theorem sucs_add {G : Gr} (hn : G.names.Nodup) (s x : ByteArray) : sucs (addG G s) x = sucs G x := by
  by_cases hx : x ∈ G.names
  · obtain ⟨i, S, hi⟩ := names_at hx
    have hlt := (List.getElem?_eq_some_iff.1 hi).1
    have h1 : (addG G s)[i]? = some (x, S) := by
      unfold addG
      split
      · exact hi
      · rw [List.getElem?_append_left hlt]; exact hi
    rw [sucs_at (addG_nodup hn s) h1, sucs_at hn hi]
  · rw [sucs_none hx]
    by_cases he : x = s
    · subst he
      have h1 : (addG G x)[G.length]? = some (x, []) := by
        unfold addG
        rw [if_neg hx, List.getElem?_append_right (Nat.le_refl _)]
        simp
      exact sucs_at (addG_nodup hn x) h1
    · refine sucs_none fun h => ?_
      unfold addG at h
      split at h
      · exact hx h
      · unfold Gr.names at h hx
        rw [List.map_append] at h
        rcases List.mem_append.1 h with h | h
        · exact hx h
        · simp at h
          exact he h
structure DrSt (B : Nat) (W : World) (gb rb mb : Nat) (p : ByteArray) (hv bv : Value) (G : Gr) : Prop where
  r : W.heap[rb]? = some (.cells #[.string p, hv, bv] 29 (0, 0))
  g : W.heap[gb]? = some (.cells #[.map (some mb)] tG (0, 0))
  gr : GrI B W mb G
theorem DrSt.fut {B gb rb mb : Nat} {W w' : World} {p : ByteArray} {hv bv : Value} {G : Gr} (h : DrSt B W gb rb mb p hv bv G) (hf : Fut W w') : DrSt B w' gb rb mb p hv bv G := ⟨hf.block h.r, hf.block h.g, h.gr.fut hf⟩
theorem GrI.mapE {B mb : Nat} {W : World} {G : Gr} (h : GrI B W mb G) : ∃ l, MapE strV W mb l := by
  obtain ⟨vs, _, h2, _⟩ := h
  exact ⟨_, h2⟩
theorem GrI.ge {B mb : Nat} {W : World} {G : Gr} (h : GrI B W mb G) : B ≤ mb := by
  obtain ⟨vs, _, _, _, _, _, h6⟩ := h
  exact h6
theorem wpList_mapG {ops : Array Oper} {rest : List Oper} {o : Oper} {a : Act} {Q : Exit → Act → World → Prop} {w w' : World} {b : Nat} {p : ByteArray} {v : Value} (hgd : Region.wanted o (yielded ops a.tmps) = true) (m y z : Operand)
    (ho : o.op = .mapUpdate tG m y z) (hm : a.eval m = .map (some b)) (hy : a.eval y = .string p) (hz : a.eval z = v) (hr : (Instr.mapUpdate tG (.map (some b)) (.string p) v).run Tryz.prog w = .ok () w')
    (hk : wpList Tryz.prog ops Q rest (a.put o.dst undef) w') : wpList Tryz.prog ops Q (o :: rest) a w := by
  refine wpList_of_skip hgd (w' := w') ?_ hk
  unfold execOp
  simp only [ho, hm, hy, hz, hr, Sem.run_bind, Sem.run_pure, Result.andThen_ok]
theorem exec_append_nm {B : Nat} {w : World} {o : Oper} {a : Act} {s x : Operand} {v u : Value} {xs : List ByteArray} {t : ByteArray} (ho : o.op = .call { callee := .builtin .append, args := #[s, x], argTypes := #[tVl', tVl'] }) (hs : a.eval s = v) (hx : a.eval x = u) (hown : Nms B w v xs) (hu : SlRep 1 1 RNm w u [t]) (hl : xs.length ≤ 1000000000) (hB : B ≤ w.heap.size) :
    ∃ v' w', (execOp a.eval o).run Tryz.prog w = .ok (.value v') w' ∧ Nms B w' v' (xs ++ [t]) ∧ w.grownBy w' v.ownBlock ∧ SameOrNew w v v' := by
  obtain ⟨i, hi, hz, hs', hb⟩ := info_parts infoNm
  obtain ⟨v', w', hr, h2, h3, h4⟩ := run_append_listB (P := Tryz.prog) tVl' o.type i (.string ⟨#[]⟩) 16 Tryz.underlying47 hi hz hs' hb rfl (by decide) RNm.one (fun w' cs x hr hg => RNm.keeps w w' _ cs x hr hg hown.typed) hown hu (by simp [maxLen]; omega) (by simp; omega) hB
  refine ⟨v', w', ?_, h2, h3, h4⟩
  unfold execOp
  simp only [ho, resolve, invoke, builtin, Sem.run_bind, Sem.run_pure, Result.andThen_ok, List.map_toArray, List.map_cons, List.map_nil, hs, hx, hr]
theorem exec_append_goal {B : Nat} {w : World} {o : Oper} {a : Act} {s x : Operand} {v u : Value} {xs : List ByteArray} {t : ByteArray} {E : World → Prop} {S : Value → World → Prop} (ho : o.op = .call { callee := .builtin .append, args := #[s, x], argTypes := #[tVl', tVl'] }) (hs : a.eval s = v) (hx : a.eval x = u) (hown : Nms B w v xs) (hu : SlRep 1 1 RNm w u [t]) (hl : xs.length ≤ 1000000000) (hB : B ≤ w.heap.size)
    (h : ∀ v' w', Nms B w' v' (xs ++ [t]) → w.grownBy w' v.ownBlock → SameOrNew w v v' → E w' ∧ S v' w') : ∃ v' w', (execOp a.eval o).run Tryz.prog w = .ok (.value v') w' ∧ E w' ∧ S v' w' := by
  obtain ⟨v', w', e1, e2, e3, e4⟩ := exec_append_nm ho hs hx hown hu hl hB
  exact ⟨v', w', e1, h v' w' e2 e3 e4⟩
theorem nmBlock {w : World} {n : Nat} {s : ByteArray} (h : w.heap[n]? = some (.cells #[.string s] 9 (0, 0))) : SlRep 1 1 RNm w (.slice (some ⟨n, 0, none⟩) 1 1) [s] :=
  ⟨_, 1, rfl, Nat.le_refl _, Nat.le_refl _, fun i y hy => by
    have hi : i = 0 := by
      have := (List.getElem?_eq_some_iff.1 hy).1
      simp at this; omega
    subst hi
    simp at hy
    subst hy
    refine ⟨n, 0, _, rfl, rfl, fun j c hj => ?_, rfl⟩
    rw [show 0 + (0 * 1 + j) = j by omega]
    exact cell_at h j c (by simpa using hj)⟩
set_option maxHeartbeats 4000000 in
set_option maxRecDepth 100000 in
theorem draw1_any {B gb rb mb : Nat} {p : ByteArray} {hv bv : Value} {G : Gr} (z : Lt) (A : Option Addr) (c : Nat) (Al : Option Addr) (l cl : Nat) (Ad : Option Addr) (d cd : Nat) (w : World) (h : DrSt B w gb rb mb p hv bv G) (hB : B ≤ w.heap.size) (hp : p.size ≤ 140737488351232) (hzp : z.p.size ≤ 140737488351232) (hin : p ∈ G.names) (hes : (sucs G p).length ≤ 1000000000) :
    Calls Tryz.prog 78 #[.agg (z.cs (.slice A z.a.length c) (.slice Al l cl) (.slice Ad d cd)).toArray, .pointer (some ⟨gb, 0, none⟩), .pointer (some ⟨rb, 0, none⟩)] w fun e w' => (∃ u, e = .returned u) ∧ DrSt B w' gb rb mb p hv bv (stepG p G z) ∧ Only (fun k => B ≤ k) w w' := by
  have hbx := heap_alloc_new w (.cells (z.cs (.slice A z.a.length c) (.slice Al l cl) (.slice Ad d cd)).toArray 68)
  have k1 := cell_at hbx 1 (.string z.p) rfl
  have hbl := (Array.getElem?_eq_some_iff.1 hbx).1
  generalize hcs : z.cs (.slice A z.a.length c) (.slice Al l cl) (.slice Ad d cd) = cs at *
  have f0 := Fut.alloc w (.cells cs.toArray 68)
  have g1 := h.fut f0
  have x0 := cell_at g1.r 0 (.string p) rfl
  have x1 := cell_at g1.g 0 (.map (some mb)) rfl
  obtain ⟨v, hN, HLk, HPs⟩ := g1.gr.push (t := z.p) hp hzp hin
  obtain ⟨Av, cv, rfl, _, _⟩ := hN.rep.form
  have hs0 := f0.size
  obtain ⟨l9, hm9⟩ := g1.gr.mapE
  have sepb : ∀ {j : Nat} {a : Array Value} {t : TypeId}, (w.alloc (.cells cs.toArray 68)).heap[j]? = some (.cells a t (0, 0)) → t ≠ 9 → ¬ (Value.slice Av (sucs G p).length cv).ownBlock = some j := fun hj ht e => by
    obtain ⟨arr, h9⟩ := hN.typed _ e
    exact other_block hj h9 ht rfl
  have sr := sepb g1.r (by decide)
  have sg := sepb g1.g (by decide)
  have sb := sepb hbx (by decide)
  have mr := map_ne hm9 g1.r
  have mg := map_ne hm9 g1.g
  have mx := map_ne hm9 hbx
  clear hcs hbx hm9 sepb
  have HL := Lib.hid HLk
  have HP := Lib.hid HPs
  have HN := Lib.hid hN
  have G1 := Lib.hid g1
  have F0 := Lib.hid f0
  clear HLk HPs hN g1 f0 h
  go_enter Tryz.func78, Tryz.ntmps78
  go_wp2_with fail
  letI i1 : On.Mut := On.Mut.one 11 (Only (fun k => (Value.slice Av (sucs G p).length cv).ownBlock = some k)) Only.fut Only.trans
  refine On.wp_graph 12 [.d, .d, .d, .d, .d, .d, .d, .d, .d, .d, .r (fun u W => ∃ n, (w.alloc (.cells cs.toArray 68)).heap.size ≤ n ∧ u = .slice (some ⟨n, 0, none⟩) 1 1 ∧ W.heap[n]? = some (.cells #[.string z.p] 9 (0, 0))), .r (fun u W => Nms B W u (sucs G p ++ [z.p]) ∧ ∀ k, u.ownBlock = some k → (Value.slice Av (sucs G p).length cv).ownBlock = some k ∨ (w.alloc (.cells cs.toArray 68)).heap.size ≤ k)] (by kernel_rfl) (by kernel_rfl) (by kernel_rfl) (.inr fun _ _ => trivial) On.one_dep ?_
  simp only [List.take_succ_cons, List.take_zero, List.drop_succ_cons, List.drop_zero, Exs]
  iterate 10 apply Exists.intro
  apply On.Run.valG (.inr fun _ _ => trivial) (wanted_none rfl _)
  · intro w1 h1 hk
    have hg : Only (fun k => (Value.slice Av (sucs G p).length cv).ownBlock = some k) (w.alloc (.cells cs.toArray 68)) w1 := (Only.fut (Fut.drew _)).trans (by first | exact h1 | exact Only.fut h1); have q0 := hg.cell x0 sr; have q1 := hg.cell x1 sg; have q2 := hg.cell k1 sb; have q3 := HL.out _ hg
    go_simp; rfl
  simp only [Act.put, List.setIfInBounds_toArray, List.set_cons_succ, List.set_cons_zero, List.nil_append, List.cons_append]
  apply On.Run.valG (.inr fun _ _ => trivial) (wanted_none rfl _)
  · intro w1 h1 hk
    have hg : Only (fun k => (Value.slice Av (sucs G p).length cv).ownBlock = some k) (w.alloc (.cells cs.toArray 68)) w1 := (Only.fut (Fut.drew _)).trans (by first | exact h1 | exact Only.fut h1); have q0 := hg.cell x0 sr; have q1 := hg.cell x1 sg; have q2 := hg.cell k1 sb; have q3 := HL.out _ hg
    go_simp; rfl
  simp only [Act.put, List.setIfInBounds_toArray, List.set_cons_succ, List.set_cons_zero, List.nil_append, List.cons_append]
  apply On.Run.valG (.inr fun _ _ => trivial) (wanted_none rfl _)
  · intro w1 h1 hk
    have hg : Only (fun k => (Value.slice Av (sucs G p).length cv).ownBlock = some k) (w.alloc (.cells cs.toArray 68)) w1 := (Only.fut (Fut.drew _)).trans (by first | exact h1 | exact Only.fut h1); have q0 := hg.cell x0 sr; have q1 := hg.cell x1 sg; have q2 := hg.cell k1 sb; have q3 := HL.out _ hg
    go_simp; rfl
  simp only [Act.put, List.setIfInBounds_toArray, List.set_cons_succ, List.set_cons_zero, List.nil_append, List.cons_append]
  apply On.Run.valG (.inr fun _ _ => trivial) (wanted_none rfl _)
  · intro w1 h1 hk
    have hg : Only (fun k => (Value.slice Av (sucs G p).length cv).ownBlock = some k) (w.alloc (.cells cs.toArray 68)) w1 := (Only.fut (Fut.drew _)).trans (by first | exact h1 | exact Only.fut h1); have q0 := hg.cell x0 sr; have q1 := hg.cell x1 sg; have q2 := hg.cell k1 sb; have q3 := HL.out _ hg
    go_simp; rfl
  simp only [Act.put, List.setIfInBounds_toArray, List.set_cons_succ, List.set_cons_zero, List.nil_append, List.cons_append]
  apply On.Run.valG (.inr fun _ _ => trivial) (wanted_none rfl _)
  · intro w1 h1 hk
    have hg : Only (fun k => (Value.slice Av (sucs G p).length cv).ownBlock = some k) (w.alloc (.cells cs.toArray 68)) w1 := (Only.fut (Fut.drew _)).trans (by first | exact h1 | exact Only.fut h1); have q0 := hg.cell x0 sr; have q1 := hg.cell x1 sg; have q2 := hg.cell k1 sb; have q3 := HL.out _ hg
    go_simp; rfl
  simp only [Act.put, List.setIfInBounds_toArray, List.set_cons_succ, List.set_cons_zero, List.nil_append, List.cons_append]
  apply On.Run.valG (.inr fun _ _ => trivial) (wanted_none rfl _)
  · intro w1 h1 hk
    have hg : Only (fun k => (Value.slice Av (sucs G p).length cv).ownBlock = some k) (w.alloc (.cells cs.toArray 68)) w1 := (Only.fut (Fut.drew _)).trans (by first | exact h1 | exact Only.fut h1); have q0 := hg.cell x0 sr; have q1 := hg.cell x1 sg; have q2 := hg.cell k1 sb; have q3 := HL.out _ hg
    go_simp; rfl
  simp only [Act.put, List.setIfInBounds_toArray, List.set_cons_succ, List.set_cons_zero, List.nil_append, List.cons_append]
  apply On.Run.valG (.inr fun _ _ => trivial) (wanted_none rfl _)
  · intro w1 h1 hk
    have hg : Only (fun k => (Value.slice Av (sucs G p).length cv).ownBlock = some k) (w.alloc (.cells cs.toArray 68)) w1 := (Only.fut (Fut.drew _)).trans (by first | exact h1 | exact Only.fut h1); have q0 := hg.cell x0 sr; have q1 := hg.cell x1 sg; have q2 := hg.cell k1 sb; have q3 := HL.out _ hg
    go_simp; rfl
  simp only [Act.put, List.setIfInBounds_toArray, List.set_cons_succ, List.set_cons_zero, List.nil_append, List.cons_append]
  apply On.Run.valG (.inr fun _ _ => trivial) (wanted_none rfl _)
  · intro w1 h1 hk
    have hg : Only (fun k => (Value.slice Av (sucs G p).length cv).ownBlock = some k) (w.alloc (.cells cs.toArray 68)) w1 := (Only.fut (Fut.drew _)).trans (by first | exact h1 | exact Only.fut h1); have q0 := hg.cell x0 sr; have q1 := hg.cell x1 sg; have q2 := hg.cell k1 sb; have q3 := HL.out _ hg
    go_simp; rfl
  simp only [Act.put, List.setIfInBounds_toArray, List.set_cons_succ, List.set_cons_zero, List.nil_append, List.cons_append]
  apply On.Run.valG (.inr fun _ _ => trivial) (wanted_none rfl _)
  · intro w1 h1 hk
    have hg : Only (fun k => (Value.slice Av (sucs G p).length cv).ownBlock = some k) (w.alloc (.cells cs.toArray 68)) w1 := (Only.fut (Fut.drew _)).trans (by first | exact h1 | exact Only.fut h1); have q0 := hg.cell x0 sr; have q1 := hg.cell x1 sg; have q2 := hg.cell k1 sb; have q3 := HL.out _ hg
    go_simp; rfl
  simp only [Act.put, List.setIfInBounds_toArray, List.set_cons_succ, List.set_cons_zero, List.nil_append, List.cons_append]
  apply On.Run.valG (.inr fun _ _ => trivial) (wanted_none rfl _)
  · intro w1 h1 hk
    have hg : Only (fun k => (Value.slice Av (sucs G p).length cv).ownBlock = some k) (w.alloc (.cells cs.toArray 68)) w1 := (Only.fut (Fut.drew _)).trans (by first | exact h1 | exact Only.fut h1); have q0 := hg.cell x0 sr; have q1 := hg.cell x1 sg; have q2 := hg.cell k1 sb; have q3 := HL.out _ hg
    go_simp; rfl
  simp only [Act.put, List.setIfInBounds_toArray, List.set_cons_succ, List.set_cons_zero, List.nil_append, List.cons_append]
  apply On.Run.valR (.inr fun _ _ => trivial) (wanted_none rfl _) (by intro v w w' hf hs; exact (by obtain ⟨n, a1, a2, a3⟩ := hs; exact ⟨n, a1, a2, (show Only (fun k => (Value.slice Av (sucs G p).length cv).ownBlock = some k) _ _ from by first | exact hf | exact Only.fut hf).keeps a3 (fun e => by have := (HN.out.block n e).2; omega)⟩))
  · intro w1 h1 hk
    have hg : Only (fun k => (Value.slice Av (sucs G p).length cv).ownBlock = some k) (w.alloc (.cells cs.toArray 68)) w1 := (Only.fut (Fut.drew _)).trans (by first | exact h1 | exact Only.fut h1); have q0 := hg.cell x0 sr; have q1 := hg.cell x1 sg; have q2 := hg.cell k1 sb; have q3 := HL.out _ hg
    go_simp; exact ⟨_, _, ⟨rfl, rfl⟩, Fut.alloc _ _, _, by have := hg.size; simpa using this, rfl, heap_alloc_new _ _⟩
  intro v10
  simp only [Act.put, List.setIfInBounds_toArray, List.set_cons_succ, List.set_cons_zero, List.nil_append, List.cons_append]
  apply On.Run.mutVR (.inr fun _ _ => trivial) (wanted_none rfl _) (by intro v w w' hf hs; exact ⟨hs.1.fut RNm.stays (show Fut _ _ from hf), hs.2⟩)
  · intro w1 h1 hk
    have f10 := Facts.get hk 0 rfl (by kernel_rfl)
    have hg : Only (fun k => (Value.slice Av (sucs G p).length cv).ownBlock = some k) (w.alloc (.cells cs.toArray 68)) w1 := (Only.fut (Fut.drew _)).trans (by first | exact h1 | exact Only.fut h1); have q0 := hg.cell x0 sr; have q1 := hg.cell x1 sg; have q2 := hg.cell k1 sb; have q3 := HL.out _ hg
    obtain ⟨n, a1, rfl, a3⟩ := f10; refine exec_append_goal (B := B) (t := z.p) (xs := sucs G p) (v := .slice Av (sucs G p).length cv) rfl rfl rfl (HN.out.fut RNm.stays ((Fut.drew _).trans h1)) (nmBlock a3) (by omega) (by have := hg.size; omega) (fun v' w' e2 e3 e4 => ⟨On.Eff.one (Only.grown e3 fun k hk => hk), e2, fun k hk => ?_⟩); rcases e4 with e | e; exact .inl (e ▸ hk); exact .inr (Nat.le_trans hg.size (e k hk))
  intro v11
  simp only [Act.put, List.setIfInBounds_toArray, List.set_cons_succ, List.set_cons_zero, List.nil_append, List.cons_append]
  apply On.Run.done
  intro w2 h2 hk hJ
  obtain ⟨f10, f11, _⟩ := hk
  obtain ⟨hN3, hnew⟩ := f11
  have hO2 : Only (fun k => (Value.slice Av (sucs G p).length cv).ownBlock = some k) (w.alloc (.cells cs.toArray 68)) w2 := (Only.fut (Fut.drew _)).trans (show Only (fun k => (Value.slice Av (sucs G p).length cv).ownBlock = some k) _ _ from h2)
  obtain ⟨w3, hr, hG3, hO3⟩ := HP.out w2 v11 hO2 hN3 hnew
  obtain ⟨A8, c8, rfl, _, _⟩ := hN3.rep.form
  have gd := G1.out
  have b1 := hO3.keeps gd.r (by rintro (e | e); exact mr e.symm; exact sr e)
  have b2 := hO3.keeps gd.g (by rintro (e | e); exact mg e.symm; exact sg e)
  have b3 := hO3.cell k1 (by rintro (e | e); exact mx e.symm; exact sb e)
  have c2 := cell_at b2 0 (.map (some mb)) rfl
  have OA : Only (fun k => B ≤ k) w w3 := (Only.fut F0.out).trans (hO3.mono fun k _ hk => by
    rcases hk with hk | hk
    · rw [hk]; exact gd.gr.ge
    · exact (HN.out.block k hk).1)
  replace OA := Lib.hid OA
  have HB1 := Lib.hid b1
  have HB2 := Lib.hid b2
  obtain ⟨G2, hG2⟩ : ∃ G2, pushG G p z.p = G2 := ⟨_, rfl⟩
  have hst : stepG p G z = addG G2 z.p := by unfold stepG; rw [hG2]
  replace hst := Lib.hid hst
  rw [hG2] at hG3
  obtain ⟨v2, hN2, hL2⟩ := hG3.look hzp
  have hL2' := (hL2 w3 (Fut.refl _)).2
  obtain ⟨A9, c9, rfl, _, _⟩ := hN2.rep.form
  clear i1 h2 hO2 hO3 hnew f10 hN3 gd b1 b2 k1 x0 x1 HP HL HN hL2 hN2 sr sg sb mr mg mx G1 F0 hJ
  refine wpList_mapG (wanted_none rfl _) _ _ _ rfl rfl rfl rfl hr ?_
  clear hr
  by_cases hin2 : z.p ∈ G2.names
  · have ha : addG G2 z.p = G2 := by unfold addG; rw [if_pos hin2]
    rw [decide_eq_true hin2] at hL2'
    have HG3 := Lib.hid (show DrSt B w3 gb rb mb p hv bv (stepG p G z) from by rw [hst.out, ha]; exact ⟨HB1.out, HB2.out, hG3⟩)
    clear hG3 hin2 ha hst hG2
    go_wp2
    go_end0
    exact ⟨⟨_, rfl⟩, HG3.out, OA.out⟩
  · rw [decide_eq_false hin2] at hL2'
    obtain ⟨w4, hr4, hg4, hG4⟩ := hG3.add hzp hin2
    obtain ⟨l9, hm9⟩ := hG3.mapE
    have O4 : Only (fun k => k = mb) w3 w4 := Only.grown hg4 fun k hk => (Option.some.inj hk).symm
    have HD := Lib.hid (show DrSt B w4 gb rb mb p hv bv (stepG p G z) from by rw [hst.out]; exact ⟨O4.keeps HB1.out fun e => map_ne hm9 HB1.out e.symm, O4.keeps HB2.out fun e => map_ne hm9 HB2.out e.symm, hG4⟩)
    have OB := Lib.hid (OA.out.trans (O4.mono fun k _ hk => by rw [hk]; exact hG3.ge))
    clear O4 hm9 hg4 hG4 hG3 hin2 hst hG2 OA
    go_wp2
    go_end0
    exact ⟨⟨_, rfl⟩, HD.out, OB.out⟩
end Go.Proofs.YtgcgmbegkfaifaaGreatDoor
