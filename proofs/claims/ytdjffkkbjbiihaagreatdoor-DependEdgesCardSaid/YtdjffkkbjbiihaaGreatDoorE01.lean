/- Parts. -/
import Derived.Test.YtdjffkkbjbiihaaGreatDoorRows
import Derived.Test.YtdjffkkbjbiihaaGreatDoorProg
import Derived.Test.YtdjffkkbjbiihaaGreatDoorChecked
import Derived.JoinedOf
import Derived.SevenTiedAt
import Derived.Lay
import Derived.ChangeMaps5
import Derived.StillTail
import Derived.Tactics
import Derived.Below
set_option linter.unusedSimpArgs false
set_option linter.unusedVariables false
namespace Go.Proofs.YtdjffkkbjbiihaaGreatDoor
open Go.ChangeShapes Go.WideShapes
set_option maxRecDepth 100000
theorem and_mkDependEdges {a b : Bool} (h1 : a = true) (h2 : b = true) : (a && b) = true := by rw [h1, h2]; rfl
set_option maxHeartbeats 4000000 in
theorem DependEdges_facts : joinedFacts Tryz.pinned.checked.prog 4 Tryz.f4 Rows.dependEdgesSpec Rows.dependEdgesRow = true := by
 unfold joinedFacts
 repeat' (with_reducible refine and_mkDependEdges ?_ ?_)
 all_goals (as_aux_lemma => kernel_rfl)
end Go.Proofs.YtdjffkkbjbiihaaGreatDoor
namespace Go.Proofs.YtdjffkkbjbiihaaGreatDoor
open Go.RowKit
def Fut (w w' : World) : Prop := Below w.heap.size w w'
theorem Fut.refl (w : World) : Fut w w := Below.refl _ _
theorem Fut.trans {a b c : World} (h : Fut a b) (k : Fut b c) : Fut a c := Below.trans h (Below.mono k h.size)
theorem Fut.drew (w : World) : Fut w w.drew := (Below.refl _ _).drew
theorem Fut.alloc (w : World) (o : Obj) : Fut w (w.alloc o) := (Below.refl _ _).alloc (Nat.le_refl _) o
theorem Fut.set {w wr : World} (h : Fut w wr) {p : Addr} (hp : w.heap.size ≤ p.block) (u : Value) : Fut w (wr.setCell p u) := Below.setCell h hp u
theorem lt_of_cell {w : World} {p : Addr} {v : Value} (h : w.cell? p = some v) : p.block < w.heap.size := by
 rcases Nat.lt_or_ge p.block w.heap.size with h' | h'
 ·exact h'
 ·unfold World.cell? at h; rw [Array.getElem?_eq_none h'] at h; cases h
theorem Fut.cell {w w' : World} (h : Fut w w') {p : Addr} {v : Value} (hc : w.cell? p = some v) : w'.cell? p = some v :=
 (Below.cell h (lt_of_cell hc)).trans hc
theorem Fut.free {w w' : World} (h : Fut w w') {p : Addr} (hp : p.block < w.heap.size) (hz : w.frozen? p = false) : w'.frozen? p = false :=
 (Below.frozen h hp).trans hz
theorem Fut.block {w w' : World} (h : Fut w w') {g : Nat} {o : Obj} (hc : w.heap[g]? = some o) : w'.heap[g]? = some o := by
 have hlt : g < w.heap.size := by
  rcases Nat.lt_or_ge g w.heap.size with h' | h'
  ·exact h'
  ·rw [Array.getElem?_eq_none h'] at hc; cases hc
 exact (Below.block h g hlt).trans hc
inductive Sp where
 | det (c : Value)
 | rel (S : Value → World → Prop)
def Sp.holds : Sp → Value → World → Prop
 | .det c, v, _ => v = c
 | .rel S, v, w => S v w
def Sp.mono : Sp → Prop
 | .det _ => True
 | .rel S => ∀ v w w', Fut w w' → S v w → S v w'
theorem Sp.holds_mono {s : Sp} (h : s.mono) {v : Value} {w w' : World} (hf : Fut w w') (hs : s.holds v w) : s.holds v w' := by
 cases s with
 | det c => exact hs
 | rel S => exact h v w w' hf hs
def givesUpon (P : Program) (s : Sp) (w : World) : Result Next → Prop
 | .ok (.value v) w' => Fut w w' ∧ s.holds v w'
 | .ok .skip w' => Fut w w' ∧ s.holds undef w'
 | .ok (.enter f args) w' => Calls P f args w' (fun e w'' => ∃ v, e = .returned v ∧ Fut w w'' ∧ s.holds v w'')
 | _ => False
def gives (P : Program) (o : Oper) (a : Act) (s : Sp) (w : World) : Prop := givesUpon P s w ((execOp a.eval o).run P w)
def givesG (P : Program) (ops : Array Oper) (o : Oper) (a : Act) (s : Sp) (w : World) : Prop :=
 if Region.wanted o (yielded ops a.tmps) = true then gives P o a s w else s.holds undef w
def dep (o : Oper) (k : Nat) : Bool := o.after.any fun e => Region.binds .any e && e.on == k
def lexAct (o : Oper) (w : World) (K : Act → Prop) : Nat → List (Option Tmp × Sp) → Act → Prop
 | _, [], a => K a
 | k, (d, .det c) :: r, a => lexAct o w K (k + 1) r (a.put d c)
 | k, (d, .rel S) :: r, a => ∀ v, (dep o k = true → S v w) → lexAct o w K (k + 1) r (a.put d v)
def lexFin (w : World) (K : Act → Prop) : List (Option Tmp × Sp) → Act → Prop
 | [], a => K a
 | (d, .det c) :: r, a => lexFin w K r (a.put d c)
 | (d, .rel S) :: r, a => ∀ v, S v w → lexFin w K r (a.put d v)
def Obl (P : Program) (ops : Array Oper) (w0 : World) (a0 : Act) (K : Act → World → Prop) : List Oper → List (Option Tmp × Sp) → Prop
 | [], acc => ∀ w, Fut w0 w → lexFin w (fun a => K a w) acc a0
 | o :: r, acc => ∃ s : Sp, s.mono ∧ (∀ w, Fut w0 w → lexAct o w (fun a => givesG P ops o a s w) 0 acc a0) ∧ Obl P ops w0 a0 K r (acc ++ [(o.dst, s)])
def putAll (v : Nat → Value) : Nat → List (Option Tmp × Sp) → Act → Act
 | _, [], a => a
 | k, (d, .det c) :: r, a => putAll v (k + 1) r (a.put d c)
 | k, (d, .rel _) :: r, a => putAll v (k + 1) r (a.put d (v k))
theorem lexAct_inst {o : Oper} {w : World} {K : Act → Prop} (v : Nat → Value) : ∀ (acc : List (Option Tmp × Sp)) (k : Nat) (a : Act), lexAct o w K k acc a →
  (∀ j d S, acc[j]? = some (d, Sp.rel S) → dep o (k + j) = true → S (v (k + j)) w) → K (putAll v k acc a)
 | [], _, _, h, _ => h
 | (d, .det c) :: r, k, a, h, hv => by
  simp only [lexAct] at h
  simp only [putAll]
  exact lexAct_inst v r (k + 1) _ h fun j d' S hj hd => by
   have := hv (j + 1) d' S (by simpa using hj) (by rwa [show k + (j + 1) = k + 1 + j by omega])
   rwa [show k + (j + 1) = k + 1 + j by omega] at this
 | (d, .rel S) :: r, k, a, h, hv => by
  simp only [lexAct] at h
  simp only [putAll]
  exact lexAct_inst v r (k + 1) _ (h (v k) (hv 0 d S rfl)) fun j d' S hj hd => by
   have := hv (j + 1) d' S (by simpa using hj) (by rwa [show k + (j + 1) = k + 1 + j by omega])
   rwa [show k + (j + 1) = k + 1 + j by omega] at this
theorem lexFin_inst {w : World} {K : Act → Prop} (v : Nat → Value) : ∀ (acc : List (Option Tmp × Sp)) (k : Nat) (a : Act), lexFin w K acc a →
  (∀ j d S, acc[j]? = some (d, Sp.rel S) → S (v (k + j)) w) → K (putAll v k acc a)
 | [], _, _, h, _ => h
 | (d, .det c) :: r, k, a, h, hv => by
  simp only [lexFin] at h
  simp only [putAll]
  exact lexFin_inst v r (k + 1) _ h fun j d' S hj => by
   have := hv (j + 1) d' S (by simpa using hj)
   rwa [show k + (j + 1) = k + 1 + j by omega] at this
 | (d, .rel S) :: r, k, a, h, hv => by
  simp only [lexFin] at h
  simp only [putAll]
  exact lexFin_inst v r (k + 1) _ (h (v k) (hv 0 d S rfl)) fun j d' S hj => by
   have := hv (j + 1) d' S (by simpa using hj)
   rwa [show k + (j + 1) = k + 1 + j by omega] at this
theorem put_size (a : Act) (d : Option Tmp) (v : Value) : (a.put d v).tmps.size = a.tmps.size := by cases d <;> simp [Act.put]
theorem put_defers' (a : Act) (d : Option Tmp) (v : Value) : (a.put d v).defers = a.defers := by cases d <;> rfl
theorem put_other (a : Act) (d : Option Tmp) (v : Value) (t : Tmp) (h : d ≠ some t) : (a.put d v).tmps[t]? = a.tmps[t]? := by
 cases d with
 | none => rfl
 | some d => simp only [Act.put]; exact Array.getElem?_setIfInBounds_ne (fun e => h (by rw [e]))
theorem put_same (a : Act) (t : Tmp) (v : Value) (h : t < a.tmps.size) : (a.put (some t) v).tmps[t]? = some v := by
 simp [Act.put, h]
theorem putAll_other (v : Nat → Value) (t : Tmp) : ∀ (acc : List (Option Tmp × Sp)) (k : Nat) (a : Act), (∀ d s, (d, s) ∈ acc → d ≠ some t) → (putAll v k acc a).tmps[t]? = a.tmps[t]?
 | [], _, _, _ => rfl
 | (d, .det c) :: r, k, a, h => by
  simp only [putAll]
  rw [putAll_other v t r (k + 1) _ fun d' s' hm => h d' s' (List.mem_cons_of_mem _ hm)]
  exact put_other _ _ _ _ (h d (Sp.det c) (by simp))
 | (d, .rel S) :: r, k, a, h => by
  simp only [putAll]
  rw [putAll_other v t r (k + 1) _ fun d' s' hm => h d' s' (List.mem_cons_of_mem _ hm)]
  exact put_other _ _ _ _ (h d (Sp.rel S) (by simp))
def valAt (v : Nat → Value) (k : Nat) : Sp → Value
 | .det c => c
 | .rel _ => v k
theorem putAll_at (v : Nat → Value) (t : Tmp) : ∀ (acc : List (Option Tmp × Sp)) (k : Nat) (a : Act) (j : Nat) (s : Sp), t < a.tmps.size → acc[j]? = some (some t, s) →
  (∀ i d s', acc[i]? = some (d, s') → d = some t → i = j) → (putAll v k acc a).tmps[t]? = some (valAt v (k + j) s)
 | [], _, _, j, s, _, h, _ => by simp at h
 | (d, s0) :: r, k, a, 0, s, ht, h, hu => by
  simp only [List.getElem?_cons_zero, Option.some.injEq, Prod.mk.injEq] at h
  obtain ⟨rfl, rfl⟩ := h
  have hno : ∀ d' s', (d', s') ∈ r → d' ≠ some t := fun d' s' hm e => by
   obtain ⟨i, hi⟩ := List.getElem?_of_mem hm
   have := hu (i + 1) d' s' (by simpa using hi) e
   omega
  cases s0 with
  | det c => simp only [putAll]; rw [putAll_other v t r _ _ hno, put_same _ _ _ ht]; rfl
  | rel S => simp only [putAll]; rw [putAll_other v t r _ _ hno, put_same _ _ _ ht]; rfl
 | (d, s0) :: r, k, a, j + 1, s, ht, h, hu => by
  have h' : r[j]? = some (some t, s) := by simpa using h
  have hu' : ∀ i d s', r[i]? = some (d, s') → d = some t → i = j := fun i d' s' hi e => by
   have := hu (i + 1) d' s' (by simpa using hi) e
   omega
  cases s0 with
  | det c =>
   simp only [putAll]
   rw [putAll_at v t r (k + 1) _ j s (by rw [put_size]; exact ht) h' hu', show k + 1 + j = k + (j + 1) by omega]
  | rel S =>
   simp only [putAll]
   rw [putAll_at v t r (k + 1) _ j s (by rw [put_size]; exact ht) h' hu', show k + 1 + j = k + (j + 1) by omega]
def dstAt (ops : Array Oper) (k : Nat) : Option Tmp := (ops[k]?).bind (·.dst)
def graphB (ops : Array Oper) (n : Nat) : Bool :=
 Region.noSelect ops && decide (n ≤ ops.size) &&
 (List.range n).all fun i => match ops[i]? with
  | none => false
  | some o =>
   (o.after.all fun e => !Region.binds .any e || decide (e.on < i)) &&
   (match o.dst with
    | none => true
    | some d => (List.range i).all fun k => dstAt ops k != some d) &&
   ((o.looksAt ops).all fun t => (List.range n).all fun k => dstAt ops k != some t || (if k < i then dep o k else k == i || (match ops[k]? with | some ok => dep ok i | none => false)))
structure GInv (ops : Array Oper) (n : Nat) (sp : Nat → Sp) (a0 : Act) (w0 : World) (vs : Nat → Value) (listed : Array Bool) (a : Act) (w : World) : Prop where
 size : a.tmps.size = a0.tmps.size
 defers : a.defers = a0.defers
 fut : Fut w0 w
 free : ∀ t, (∀ k, k < n → listed.getD k false = true → dstAt ops k ≠ some t) → a.tmps[t]? = a0.tmps[t]?
 held : ∀ k, k < n → listed.getD k false = true → (sp k).holds (vs k) w
 slot : ∀ k d, k < n → listed.getD k false = true → dstAt ops k = some d → a.tmps[d]? = some (vs k)
 lsize : listed.size = ops.size
 closed : ∀ j oj, ops[j]? = some oj → listed.getD j false = true → ∀ e ∈ oj.after, Region.binds .any e = true → listed.getD e.on false = true
 tail : ∀ t, n ≤ t → t < ops.size → listed.getD t true = false
theorem act_ext {a b : Act} (h1 : ∀ t : Nat, a.tmps[t]? = b.tmps[t]?) (h2 : a.defers = b.defers) : a = b := by
 cases a; cases b
 simp only at h1 h2
 subst h2
 congr 1
 exact Array.ext_getElem? h1
theorem graphB_spec {ops : Array Oper} {n : Nat} (h : graphB ops n = true) : Region.noSelect ops = true ∧ n ≤ ops.size ∧ ∀ i, i < n → ∃ o, ops[i]? = some o ∧
  (∀ e ∈ o.after, Region.binds .any e = true → e.on < i) ∧ (∀ d, o.dst = some d → ∀ k, k < i → dstAt ops k ≠ some d) ∧
  (∀ t ∈ o.looksAt ops, ∀ k, k < n → dstAt ops k = some t → (k < i → dep o k = true) ∧ (i < k → ∃ ok, ops[k]? = some ok ∧ dep ok i = true)) := by
 simp only [graphB, Bool.and_eq_true, decide_eq_true_eq, List.all_eq_true, List.mem_range] at h
 obtain ⟨⟨h1, h2⟩, h3⟩ := h
 refine ⟨h1, h2, fun i hi => ?_⟩
 have := h3 i hi
 cases ho : ops[i]? with
 | none => simp [ho] at this
 | some o =>
  simp only [ho, Bool.and_eq_true] at this
  obtain ⟨⟨h4, h5⟩, h6⟩ := this
  refine ⟨o, rfl, fun e he hb => ?_, fun d hd k hk => ?_, fun t ht k hk hd => ⟨fun hki => ?_, fun hik => ?_⟩⟩
  ·have := Array.all_eq_true_iff_forall_mem.1 h4 e he
   simpa [hb] using this
  ·simp only [hd, List.all_eq_true, List.mem_range] at h5
   simpa using h5 k hk
  ·have h7 := List.all_eq_true.1 (List.all_eq_true.1 h6 t ht) k (List.mem_range.2 hk)
   simp only [hd, bne_self_eq_false, Bool.false_or, hki, if_true] at h7
   exact h7
  ·have h7 := List.all_eq_true.1 (List.all_eq_true.1 h6 t ht) k (List.mem_range.2 hk)
   have hn : ¬ k < i := by omega
   have hne : (k == i) = false := by simp; omega
   simp only [hd, bne_self_eq_false, Bool.false_or, hn, if_false, hne] at h7
   cases hok : ops[k]? with
   | none => simp [hok] at h7
   | some ok => exact ⟨ok, rfl, by simpa [hok] using h7⟩
theorem dep_spec {o : Oper} {k : Nat} (h : dep o k = true) : ∃ e ∈ o.after, Region.binds .any e = true ∧ e.on = k := by
 unfold dep at h
 obtain ⟨e, he, hb⟩ := Array.any_eq_true'.1 h
 simp only [Bool.and_eq_true, beq_iff_eq] at hb
 exact ⟨e, he, hb⟩
theorem Obl_split {P : Program} {ops : Array Oper} {w0 : World} {a0 : Act} {K : Act → World → Prop} : ∀ (l : List Oper) (acc : List (Option Tmp × Sp)), Obl P ops w0 a0 K l acc →
  ∃ full : List (Option Tmp × Sp), full.length = acc.length + l.length ∧ full.take acc.length = acc ∧
   (∀ j o, l[j]? = some o → ∃ s, full[acc.length + j]? = some (o.dst, s) ∧ s.mono ∧ ∀ w, Fut w0 w → lexAct o w (fun a => givesG P ops o a s w) 0 (full.take (acc.length + j)) a0) ∧
   (∀ w, Fut w0 w → lexFin w (fun a => K a w) full a0)
 | [], acc, h => ⟨acc, by simp, by simp, fun j o hj => by simp at hj, h⟩
 | o :: r, acc, h => by
  obtain ⟨s, hm, h1, h2⟩ := h
  obtain ⟨full, hl, ht, hall, hfin⟩ := Obl_split r _ h2
  have hlen : (acc ++ [(o.dst, s)]).length = acc.length + 1 := by simp
  rw [hlen] at hl ht hall
  have ht' : full.take acc.length = acc := by
   have := congrArg (List.take acc.length) ht
   simpa [List.take_take, Nat.min_eq_left (Nat.le_succ _)] using this
  refine ⟨full, by simp only [List.length_cons]; omega, ht', fun j o' hj => ?_, hfin⟩
  cases j with
  | zero =>
   simp only [List.getElem?_cons_zero, Option.some.injEq] at hj
   subst hj
   refine ⟨s, ?_, hm, fun w hw => by rw [Nat.add_zero, ht']; exact h1 w hw⟩
   have := congrArg (fun x => x[acc.length]?) ht
   simpa [List.getElem?_take] using this
  | succ j =>
   have := hall j o' (by simpa using hj)
   rwa [show acc.length + 1 + j = acc.length + (j + 1) by omega] at this
section
variable {P : Program} {ops : Array Oper} {n : Nat} {sp : Nat → Sp} {a0 : Act} {w0 : World} {vs : Nat → Value} {listed : Array Bool} {a : Act} {w : World}
theorem GInv.step {full : List (Option Tmp × Sp)} {i : Nat} {Q : Exit → Act → World → Prop} {K : Act → World → Prop} (inv : GInv ops n sp a0 w0 vs listed a w) (hB : graphB ops n = true)
  (hbd : ∀ k d, dstAt ops k = some d → k < n → d < a0.tmps.size)
  (hsp : ∀ k, k < n → full[k]? = some (dstAt ops k, sp k)) (_hfl : full.length = n) (hmono : ∀ k, k < n → (sp k).mono)
  (hob : ∀ o, ops[i]? = some o → ∀ w, Fut w0 w → lexAct o w (fun a => givesG P ops o a (sp i) w) 0 (full.take i) a0)
  (hi : i ∈ Region.ready .any ops listed) (hin : i < n)
  (hK : ∀ v a' w', GInv ops n sp a0 w0 (fun k => if k = i then v else vs k) (listed.setIfInBounds i true) a' w' → K a' w') : wpOp P ops Q i K a w := by
 obtain ⟨hsel, hns, hg⟩ := graphB_spec hB
 obtain ⟨hun, o, ho, hall⟩ := mem_ready.1 hi
 obtain ⟨o', ho', hedge, hdist, hlook⟩ := hg i hin
 obtain rfl : o = o' := Option.some.inj (ho.symm.trans ho')
 have hunf : listed.getD i false = false := getD_both hun
 have hdep : ∀ k, dep o k = true → listed.getD k false = true := fun k hk => by
  obtain ⟨e, he, hb, rfl⟩ := dep_spec hk
  exact hall e he hb
 have hlex := lexAct_inst vs _ 0 a0 (hob o ho w inv.fut) fun j d S hj hd => by
  rw [Nat.zero_add] at hd ⊢
  rw [List.getElem?_take] at hj
  split at hj
  ·rename_i hji
   have h1 := hsp j (by omega)
   rw [hj] at h1
   simp only [Option.some.injEq, Prod.mk.injEq] at h1
   have := inv.held j (by omega) (hdep j hd)
   rw [← h1.2] at this
   exact this
  ·cases hj
 have hslot : ∀ t ∈ o.looksAt ops, a.tmps[t]? = (putAll vs 0 (full.take i) a0).tmps[t]? := fun t ht => by
  by_cases hex : ∃ k, k < i ∧ dstAt ops k = some t
  ·obtain ⟨k, hki, hkd⟩ := hex
   have hkn : k < n := by omega
   have hkl := hdep k ((hlook t ht k hkn hkd).1 hki)
   have h1 : (full.take i)[k]? = some (some t, sp k) := by rw [List.getElem?_take, if_pos hki, hsp k hkn, hkd]
   rw [inv.slot k t hkn hkl hkd, putAll_at vs t _ 0 a0 k (sp k) (hbd k t hkd hkn) h1, Nat.zero_add]
   ·have h2 := inv.held k hkn hkl
    cases hs : sp k with
    | det c => rw [hs] at h2; simp only [Sp.holds] at h2; rw [h2]; rfl
    | rel S => rfl
   ·intro j d s' hj hd
    rw [List.getElem?_take] at hj
    split at hj
    ·rename_i hji
     rw [hsp j (by omega)] at hj
     simp only [Option.some.injEq, Prod.mk.injEq] at hj
     have hjd : dstAt ops j = some t := hj.1.trans hd
     rcases Nat.lt_trichotomy j k with h' | h' | h'
     ·obtain ⟨ok, hok, _, hd2, _⟩ := hg k hkn
      exact absurd hjd (hd2 t (by simpa [dstAt, hok] using hkd) j h')
     ·exact h'
     ·obtain ⟨oj, hoj, _, hd2, _⟩ := hg j (by omega)
      exact absurd hkd (hd2 t (by simpa [dstAt, hoj] using hjd) k h')
    ·cases hj
  ·rw [putAll_other]
   ·refine inv.free t fun k hkn hkl hkd => ?_
    rcases Nat.lt_trichotomy k i with h' | h' | h'
    ·exact hex ⟨k, h', hkd⟩
    ·subst h'; rw [hunf] at hkl; cases hkl
    ·obtain ⟨ok, hok, hdk⟩ := (hlook t ht k hkn hkd).2 h'
     obtain ⟨e, he, hb, hei⟩ := dep_spec hdk
     have := inv.closed k ok hok hkl e he hb
     rw [hei, hunf] at this
     cases this
   ·intro d s hm hd
    obtain ⟨j, hj⟩ := List.getElem?_of_mem hm
    rw [List.getElem?_take] at hj
    split at hj
    ·rename_i hji
     rw [hsp j (by omega)] at hj
     simp only [Option.some.injEq, Prod.mk.injEq] at hj
     exact hex ⟨j, hji, hj.1.trans hd⟩
    ·cases hj
 have hexec : execOp a.eval o = execOp (putAll vs 0 (full.take i) a0).eval o := execOp_congr o (fun cs b => Region.noSelect_spec hsel i o cs b ho) fun x hx => by
  cases x with
  | tmp t =>
   have := hslot t (List.mem_append_left _ (List.mem_filterMap.2 ⟨.tmp t, by simpa using hx, rfl⟩))
   simp only [Act.eval, Array.getD_eq_getD_getElem?, this]
  | _ => rfl
 have hwant : Region.wanted o (yielded ops a.tmps) = Region.wanted o (yielded ops (putAll vs 0 (full.take i) a0).tmps) := by
  unfold Region.wanted
  cases hgd : o.guard with
  | none => rfl
  | some gw =>
   obtain ⟨g, want⟩ := gw
   have hy : yielded ops a.tmps g = yielded ops (putAll vs 0 (full.take i) a0).tmps g := by
    unfold yielded
    cases ht : (ops[g]?).bind (·.dst) with
    | none => rfl
    | some t =>
     have := hslot t (by simp [Oper.looksAt, hgd, ht])
     simp only [Option.bind_some, this]
   simp only [hy]
 have hdi : dstAt ops i = o.dst := by simp [dstAt, ho]
 -- the invariant behind it
 have hnew : ∀ v w', Fut w w' → (sp i).holds v w' → GInv ops n sp a0 w0 (fun k => if k = i then v else vs k) (listed.setIfInBounds i true) (a.put o.dst v) w' := fun v w' hf hv => by
  have hil : i < listed.size := by rw [inv.lsize]; omega
  have hset : ∀ k, k ≠ i → (listed.setIfInBounds i true).getD k false = listed.getD k false := fun k hk => getD_set_ne false (Ne.symm hk)
  refine ⟨by rw [put_size]; exact inv.size, by rw [put_defers']; exact inv.defers, inv.fut.trans hf, fun t ht => ?_, fun k hk hl => ?_, fun k d hk hl hd => ?_, by simp [inv.lsize], fun j oj hj hl e he hb => ?_, fun t ht ht' => by rw [getD_set_ne true (by omega)]; exact inv.tail t ht ht'⟩
  ·have hit : o.dst ≠ some t := by rw [← hdi]; exact ht i hin (by simp [hil])
   rw [put_other _ _ _ _ hit]
   refine inv.free t fun k hk hl => ht k hk ?_
   by_cases hki : k = i
   ·subst hki; simp [hil]
   ·rw [hset k hki]; exact hl
  ·by_cases hki : k = i
   ·subst hki; simpa using hv
   ·simp only [hki, if_false]
    rw [hset k hki] at hl
    exact Sp.holds_mono (hmono k hk) hf (inv.held k hk hl)
  ·by_cases hki : k = i
   ·subst hki
    have hod : o.dst = some d := by rw [← hdi]; exact hd
    rw [hod]
    show _ = some (if k = k then v else vs k)
    rw [if_pos rfl]
    exact put_same _ _ _ (by rw [inv.size]; exact hbd k d hd hk)
   ·simp only [hki, if_false]
    rw [hset k hki] at hl
    rw [put_other]
    ·exact inv.slot k d hk hl hd
    ·intro hod
     have hid : dstAt ops i = some d := hdi.trans hod
     rcases Nat.lt_or_ge k i with h' | h'
     ·exact hdist d hod k h' hd
     ·obtain ⟨ok, hok, _, hd2, _⟩ := hg k hk
      exact hd2 d (by simpa [dstAt, hok] using hd) i (by omega) hid
  ·by_cases hij : i = j
   ·subst hij
    have : oj = o := Option.some.inj (hj.symm.trans ho)
    subst this
    exact getD_set_true (hall e he hb)
   ·rw [getD_set_ne false hij] at hl
    exact getD_set_true (inv.closed j oj hj hl e he hb)
 unfold wpOp
 simp only [ho]
 unfold givesG at hlex
 rw [← hwant] at hlex
 split
 ·rename_i hw
  rw [if_pos hw] at hlex
  refine .inl ?_
  unfold gives at hlex
  rw [← hexec] at hlex
  unfold Oper.wp
  generalize (execOp a.eval o).run P w = r at hlex ⊢
  cases r with
  | ok nx w' =>
   cases nx <;> simp only [givesUpon] at hlex <;> simp only [Oper.upon]
   case value u => exact hK u _ _ (hnew u w' hlex.1 hlex.2)
   case skip => exact hK undef _ _ (hnew undef w' hlex.1 hlex.2)
   case enter f args =>
    refine Calls.mono hlex fun e w'' he => ?_
    obtain ⟨v, rfl, hf, hv⟩ := he
    exact hK v _ _ (hnew v w'' hf hv)
  | halt x w' => simp only [givesUpon] at hlex
 ·rename_i hw
  rw [if_neg hw] at hlex
  exact hK undef _ _ (hnew undef w (Fut.refl w) hlex)
end
def unl (listed : Array Bool) : Nat → Nat
 | 0 => 0
 | n + 1 => unl listed n + (if listed.getD n false = true then 0 else 1)
theorem unl_same {l l' : Array Bool} : ∀ n, (∀ k, k < n → l'.getD k false = l.getD k false) → unl l' n = unl l n
 | 0, _ => rfl
 | n + 1, h => by simp only [unl]; rw [unl_same n fun k hk => h k (by omega), h n (by omega)]
theorem unl_set {l : Array Bool} {i : Nat} (hl : l.getD i false = false) (hi : i < l.size) : ∀ n, i < n → unl (l.setIfInBounds i true) n + 1 = unl l n
 | 0, h => absurd h (by omega)
 | n + 1, h => by
  simp only [unl]
  by_cases hin : i = n
  ·subst hin
   rw [unl_same i fun k hk => getD_set_ne false (by omega)]
   simp [hi] at hl ⊢
   simp [hl]
  ·have := unl_set hl hi n (by omega)
   rw [getD_set_ne false hin]
   omega
theorem unl_zero {l : Array Bool} : ∀ n, unl l n = 0 → ∀ k, k < n → l.getD k false = true
 | 0, _, k, hk => absurd hk (by omega)
 | n + 1, h, k, hk => by
  simp only [unl] at h
  by_cases hkn : k = n
  ·subst hkn
   by_cases hl : l.getD k false = true
   ·exact hl
   ·rw [if_neg hl] at h; omega
  ·exact unl_zero n (by omega) k (by omega)
theorem unl_some {l : Array Bool} : ∀ n, unl l n ≠ 0 → ∃ i, i < n ∧ l.getD i false = false ∧ ∀ k, k < i → l.getD k false = true
 | 0, h => absurd rfl h
 | n + 1, h => by
  by_cases h0 : unl l n = 0
  ·refine ⟨n, by omega, ?_, unl_zero n h0⟩
   simp only [unl, h0] at h
   cases hl : l.getD n false with
   | true => simp only [hl] at h; simp at h
   | false => rfl
  ·obtain ⟨i, hi, h1, h2⟩ := unl_some n h0
   exact ⟨i, by omega, h1, h2⟩
theorem unl_none : ∀ (m n : Nat), unl (Array.replicate m false) n = n
 | _, 0 => rfl
 | m, n + 1 => by simp only [unl]; rw [unl_none m n, getD_replicate_false]; simp
def headDone (n m : Nat) : Array Bool := ((List.range m).map fun k => decide (k < n)).toArray
def sinkB (ops : Array Oper) (n : Nat) : Bool :=
 decide (n = ops.size) || (Region.sinkB .any ops n && Region.chainB .any ops n)
def tailB (ops : Array Oper) (n : Nat) : Bool := sinkB ops n && Region.seqB .any ops (ops.size - n) n (headDone n ops.size)
theorem wp_region_graph {P : Program} {id : Nat} {Q : Exit → Act → World → Prop} {a0 : Act} {w : World} {l : List Oper} (n : Nat) (hm : P.follows .mixedOrders = true)
  (hB : (graphB l.toArray n && tailB l.toArray n) = true) (hsz : ((List.range n).all fun k => match dstAt l.toArray k with | some d => decide (d < a0.tmps.size) | none => true) = true)
  (h : Obl P l.toArray w.drew a0 (wpList P l.toArray Q (l.drop n)) (l.take n) []) : (Code.region id l.toArray true).wp P Q a0 w := by
 simp only [Bool.and_eq_true, tailB] at hB
 obtain ⟨hG, hS, hseq⟩ := hB
 obtain ⟨hsel, hns, hg⟩ := graphB_spec hG
 have hnl : n ≤ l.length := by simpa using hns
 have hbd : ∀ k d, dstAt l.toArray k = some d → k < n → d < a0.tmps.size := fun k d hd hk => by
  have := List.all_eq_true.1 hsz k (List.mem_range.2 hk)
  simpa [hd] using this
 obtain ⟨full, hfl, _, hob, hfin⟩ := Obl_split _ _ h
 simp only [List.length_nil, Nat.zero_add] at hfl hob
 have htl : (l.take n).length = n := by simp; omega
 rw [htl] at hfl
 -- the specifications
 obtain ⟨sp, hsp⟩ : ∃ sp : Nat → Sp, ∀ k, sp k = ((full[k]?).map (·.2)).getD (.det undef) := ⟨_, fun _ => rfl⟩
 have hfull : ∀ k, k < n → ∃ o, l[k]? = some o ∧ full[k]? = some (dstAt l.toArray k, sp k) ∧ (sp k).mono ∧
   ∀ w', Fut w.drew w' → lexAct o w' (fun a => givesG P l.toArray o a (sp k) w') 0 (full.take k) a0 := fun k hk => by
  have hlk : l[k]? = some (l[k]'(by omega)) := List.getElem?_eq_getElem (by omega)
  obtain ⟨s, hs, hmono, hlex⟩ := hob k _ (by rw [List.getElem?_take, if_pos hk]; exact hlk)
  have hspk : sp k = s := by rw [hsp, hs]; rfl
  refine ⟨_, hlk, ?_, by rw [hspk]; exact hmono, by rw [hspk]; exact hlex⟩
  rw [hs, hspk]
  simp [dstAt, hlk]
 refine wp_region_any hm ?_
 have main : ∀ (f : Nat) (listed : Array Bool) (a : Act) (w' : World) (vs : Nat → Value), GInv l.toArray n sp a0 w.drew vs listed a w' → unl listed n = f →
   wpAny P .any l.toArray Q (f + (l.length - n)) listed a w' := by
  intro f
  induction f with
  | zero =>
   intro listed a w' vs inv hf
   rw [Nat.zero_add]
   have hlisted : listed = headDone n l.length := by
    refine Array.ext_getElem? fun t => ?_
    by_cases ht : t < l.length
    ·have hts : t < listed.size := by rw [inv.lsize]; simpa using ht
     have h2 : (headDone n l.length)[t]? = some (decide (t < n)) := by simp [headDone, ht]
     rw [h2, Array.getElem?_eq_getElem hts]
     by_cases htn : t < n
     ·have := unl_zero n hf t htn
      simp [hts] at this
      simp [htn, this]
     ·have := inv.tail t (by omega) (by simpa using ht)
      simp [hts] at this
      simp [htn, this]
    ·rw [Array.getElem?_eq_none (by rw [inv.lsize]; simp; omega), Array.getElem?_eq_none (by simp [headDone]; omega)]
   have hlast := lexFin_inst (K := fun a => wpList P l.toArray Q (l.drop n) a w') vs full 0 a0 (hfin w' inv.fut) fun j d S hj => by
    rw [Nat.zero_add]
    have hjn : j < n := by rw [← hfl]; exact (List.getElem?_eq_some_iff.1 hj).1
    obtain ⟨_, _, h1, _, _⟩ := hfull j hjn
    rw [hj] at h1
    simp only [Option.some.injEq, Prod.mk.injEq] at h1
    have := inv.held j hjn (unl_zero n hf j hjn)
    rw [← h1.2] at this
    exact this
   have hact : a = putAll vs 0 full a0 := by
    refine act_ext (fun t => ?_) ?_
    ·by_cases hex : ∃ k, k < n ∧ dstAt l.toArray k = some t
     ·obtain ⟨k, hk, hkd⟩ := hex
      obtain ⟨_, _, h1, _, _⟩ := hfull k hk
      rw [hkd] at h1
      rw [inv.slot k t hk (unl_zero n hf k hk) hkd, putAll_at vs t full 0 a0 k (sp k) (hbd k t hkd hk) h1, Nat.zero_add]
      ·have h2 := inv.held k hk (unl_zero n hf k hk)
       cases hs : sp k with
       | det c => rw [hs] at h2; simp only [Sp.holds] at h2; rw [h2]; rfl
       | rel S => rfl
      ·intro j d s' hj hd
       have hjn : j < n := by rw [← hfl]; exact (List.getElem?_eq_some_iff.1 hj).1
       obtain ⟨_, _, h3, _, _⟩ := hfull j hjn
       rw [hj] at h3
       simp only [Option.some.injEq, Prod.mk.injEq] at h3
       have hjd : dstAt l.toArray j = some t := h3.1.symm.trans hd
       rcases Nat.lt_trichotomy j k with h' | h' | h'
       ·obtain ⟨ok, hok, _, hd2, _⟩ := hg k hk
        exact absurd hjd (hd2 t (by simpa [dstAt, hok] using hkd) j h')
       ·exact h'
       ·obtain ⟨oj, hoj, _, hd2, _⟩ := hg j hjn
        exact absurd hkd (hd2 t (by simpa [dstAt, hoj] using hjd) k h')
     ·rw [inv.free t fun k hk _ hd => hex ⟨k, hk, hd⟩, putAll_other]
      intro d s hmem hd
      obtain ⟨j, hj⟩ := List.getElem?_of_mem hmem
      have hjn : j < n := by rw [← hfl]; exact (List.getElem?_eq_some_iff.1 hj).1
      obtain ⟨_, _, h3, _, _⟩ := hfull j hjn
      rw [hj] at h3
      simp only [Option.some.injEq, Prod.mk.injEq] at h3
      exact hex ⟨j, hjn, h3.1.symm.trans hd⟩
    ·rw [inv.defers]
     have : ∀ (acc : List (Option Tmp × Sp)) (k : Nat) (b : Act), (putAll vs k acc b).defers = b.defers := by
      intro acc
      induction acc with
      | nil => intro k b; rfl
      | cons x r ih =>
       intro k b
       obtain ⟨d, s⟩ := x
       cases s <;> simp only [putAll] <;> rw [ih, put_defers']
     rw [this]
   rw [← hact] at hlast
   have := wpAny_of_seq (md := .any) (P := P) (Q' := Q) (l.drop n) n listed a w' (fun j => by simp [List.getElem?_drop])
    (by rw [hlisted, List.length_drop]; simpa using hseq) hlast
   rwa [List.length_drop] at this
  | succ f ih =>
   intro listed a w' vs inv hf
   obtain ⟨i0, hi0, hi1, hi2⟩ := unl_some n (by rw [hf]; omega)
   have hils : ∀ i, i < n → i < listed.size := fun i hi => by rw [inv.lsize]; simp; omega
   have hready : i0 ∈ Region.ready .any l.toArray listed := by
    obtain ⟨o, ho, hedge, _⟩ := hg i0 hi0
    exact mem_ready.2 ⟨getD_in (hils i0 hi0) hi1, o, ho, fun e he hb => hi2 _ (hedge e he hb)⟩
   rw [show f + 1 + (l.length - n) = (f + (l.length - n)) + 1 by omega]
   refine ⟨fun h0 => (by rw [h0] at hready; cases hready), fun i hi => ?_⟩
   have hin : i < n := by
    rcases Nat.lt_or_ge i n with h' | h'
    ·exact h'
    ·exfalso
     have hisz : i < l.toArray.size := by
      obtain ⟨_, o, ho, _⟩ := mem_ready.1 hi
      exact (Array.getElem?_eq_some_iff.1 ho).1
     simp only [sinkB, Bool.or_eq_true, decide_eq_true_eq, Bool.and_eq_true] at hS
     rcases hS with hS | ⟨hs, hc⟩
     ·omega
     ·exact tail_waits hs hc (by omega) ⟨inv.lsize, inv.closed, inv.tail⟩ _ i0 rfl hi0 (getD_in (hils i0 hi0) hi1) i h' hi
   refine inv.step (full := full) (Q := Q) hG hbd (fun k hk => (by obtain ⟨_, _, h1, _, _⟩ := hfull k hk; exact h1)) hfl (fun k hk => (by obtain ⟨_, _, _, h1, _⟩ := hfull k hk; exact h1))
    (fun o ho => (by
     obtain ⟨o', ho', _, _, h1⟩ := hfull i hin
     have : o = o' := Option.some.inj ((by simpa using ho.symm : some o = l[i]?).trans ho')
     subst this
     exact h1)) hi hin fun v a' w'' inv' => ih _ a' w'' _ inv' ?_
   have hun := getD_both (mem_ready.1 hi).1
   have := unl_set hun (hils i hin) n hin
   omega
 have := main n (Array.replicate l.toArray.size false) a0 w.drew (fun _ => undef)
  ⟨rfl, rfl, Fut.refl _, fun _ _ => rfl, fun k _ hl => (by rw [getD_replicate_false] at hl; cases hl), fun k _ _ hl => (by rw [getD_replicate_false] at hl; cases hl), by simp,
   fun j oj _ hl => (by rw [getD_replicate_false] at hl; cases hl), fun t _ ht => getD_in (by simpa using ht) (getD_replicate_false _ _)⟩ (unl_none _ _)
 rwa [show n + (l.length - n) = l.toArray.size by simp; omega] at this
def Facts (known : List (Nat × (World → Prop))) (o : Oper) (w : World) : Prop := ∀ kF ∈ known, dep o kF.1 = true → kF.2 w
theorem Facts.get {known : List (Nat × (World → Prop))} {o : Oper} {w : World} (h : Facts known o w) (j : Nat) {k : Nat} {F : World → Prop} (hj : known[j]? = some (k, F)) (hd : dep o k = true) : F w :=
 h (k, F) (List.mem_of_getElem? hj) hd
def AllFacts : List (Nat × (World → Prop)) → World → Prop
 | [], _ => True
 | (_, F) :: r, w => F w ∧ AllFacts r w
def Run (P : Program) (ops : Array Oper) (w0 : World) (K : Act → World → Prop) : Nat → List Oper → List Sp → Act → List (Nat × (World → Prop)) → Prop
 | _, [], _, a, known => ∀ w, Fut w0 w → AllFacts known w → K a w
 | i, o :: r, .det c :: sps, a, known => (∀ w, Fut w0 w → Facts known o w → givesG P ops o a (.det c) w) ∧ Run P ops w0 K (i + 1) r sps (a.put o.dst c) known
 | i, o :: r, .rel S :: sps, a, known => (∀ v w w', Fut w w' → S v w → S v w') ∧ (∀ w, Fut w0 w → Facts known o w → givesG P ops o a (.rel S) w) ∧
   ∀ v, Run P ops w0 K (i + 1) r sps (a.put o.dst v) (known ++ [(i, S v)])
 | _, _ :: _, [], _, _ => False
inductive Sh where
 | d
 | r (S : Value → World → Prop)
def Exs (K : List Sp → Prop) : List Sh → Prop
 | [] => K []
 | .d :: sh => ∃ c, Exs (fun l => K (.det c :: l)) sh
 | .r S :: sh => Exs (fun l => K (.rel S :: l)) sh
theorem Exs_some {K : List Sp → Prop} : ∀ (sh : List Sh), Exs K sh → ∃ l, K l
 | [], h => ⟨[], h⟩
 | .d :: sh, ⟨c, h⟩ => let ⟨l, h'⟩ := Exs_some sh h; ⟨.det c :: l, h'⟩
 | .r S :: sh, h => let ⟨l, h'⟩ := Exs_some sh h; ⟨.rel S :: l, h'⟩
theorem lexAct_intro {o : Oper} {w : World} {K : Act → Prop} : ∀ (acc : List (Option Tmp × Sp)) (k : Nat) (a : Act),
  (∀ v : Nat → Value, (∀ j d S, acc[j]? = some (d, Sp.rel S) → dep o (k + j) = true → S (v (k + j)) w) → K (putAll v k acc a)) → lexAct o w K k acc a
 | [], _, _, h => h (fun _ => undef) (fun j d S hj => by simp at hj)
 | (d, .det c) :: r, k, a, h => by
  simp only [lexAct]
  refine lexAct_intro r (k + 1) _ fun v hv => ?_
  refine h v fun j d' S hj hd => ?_
  cases j with
  | zero => simp at hj
  | succ j =>
   have := hv j d' S (by simpa using hj) (by rwa [show k + 1 + j = k + (j + 1) by omega])
   rwa [show k + 1 + j = k + (j + 1) by omega] at this
 | (d, .rel S0) :: r, k, a, h => by
  simp only [lexAct]
  intro v0 hv0
  refine lexAct_intro r (k + 1) _ fun v hv => ?_
  have := h (fun i => if i = k then v0 else v i) fun j d' S hj hd => by
   cases j with
   | zero =>
    simp only [List.getElem?_cons_zero, Option.some.injEq, Prod.mk.injEq, Sp.rel.injEq] at hj
    rw [← hj.2]
    simpa using hv0 (by simpa using hd)
   | succ j =>
    have h1 := hv j d' S (by simpa using hj) (by rwa [show k + 1 + j = k + (j + 1) by omega])
    rw [show k + 1 + j = k + (j + 1) by omega] at h1
    have : k + (j + 1) ≠ k := by omega
    simpa [this] using h1
  simp only [putAll, if_true] at this
  have hcongr : ∀ (acc : List (Option Tmp × Sp)) (m : Nat) (b : Act), k < m → putAll (fun i => if i = k then v0 else v i) m acc b = putAll v m acc b := by
   intro acc
   induction acc with
   | nil => intro m b _; rfl
   | cons x r ih =>
    intro m b hm
    obtain ⟨d', s'⟩ := x
    have hmk : m ≠ k := by omega
    cases s' <;> simp only [putAll, hmk, if_false] <;> exact ih _ _ (by omega)
  rwa [hcongr _ _ _ (by omega)] at this
theorem lexFin_intro {w : World} {K : Act → Prop} : ∀ (acc : List (Option Tmp × Sp)) (k : Nat) (a : Act),
  (∀ v : Nat → Value, (∀ j d S, acc[j]? = some (d, Sp.rel S) → S (v (k + j)) w) → K (putAll v k acc a)) → lexFin w K acc a
 | [], _, _, h => h (fun _ => undef) (fun j d S hj => by simp at hj)
 | (d, .det c) :: r, k, a, h => by
  simp only [lexFin]
  refine lexFin_intro r (k + 1) _ fun v hv => ?_
  refine h v fun j d' S hj => ?_
  cases j with
  | zero => simp at hj
  | succ j =>
   have := hv j d' S (by simpa using hj)
   rwa [show k + 1 + j = k + (j + 1) by omega] at this
 | (d, .rel S0) :: r, k, a, h => by
  simp only [lexFin]
  intro v0 hv0
  refine lexFin_intro r (k + 1) _ fun v hv => ?_
  have := h (fun i => if i = k then v0 else v i) fun j d' S hj => by
   cases j with
   | zero =>
    simp only [List.getElem?_cons_zero, Option.some.injEq, Prod.mk.injEq, Sp.rel.injEq] at hj
    rw [← hj.2]
    simpa using hv0
   | succ j =>
    have h1 := hv j d' S (by simpa using hj)
    rw [show k + 1 + j = k + (j + 1) by omega] at h1
    have : k + (j + 1) ≠ k := by omega
    simpa [this] using h1
  simp only [putAll, if_true] at this
  have hcongr : ∀ (acc : List (Option Tmp × Sp)) (m : Nat) (b : Act), k < m → putAll (fun i => if i = k then v0 else v i) m acc b = putAll v m acc b := by
   intro acc
   induction acc with
   | nil => intro m b _; rfl
   | cons x r ih =>
    intro m b hm
    obtain ⟨d', s'⟩ := x
    have hmk : m ≠ k := by omega
    cases s' <;> simp only [putAll, hmk, if_false] <;> exact ih _ _ (by omega)
  rwa [hcongr _ _ _ (by omega)] at this
def knownOf (v : Nat → Value) : Nat → List (Option Tmp × Sp) → List (Nat × (World → Prop))
 | _, [] => []
 | k, (_, .det _) :: r => knownOf v (k + 1) r
 | k, (_, .rel S) :: r => (k, S (v k)) :: knownOf v (k + 1) r
theorem knownOf_append (v : Nat → Value) (y : Option Tmp × Sp) : ∀ (acc : List (Option Tmp × Sp)) (k : Nat), knownOf v k (acc ++ [y]) = knownOf v k acc ++ knownOf v (k + acc.length) [y]
 | [], k => by simp [knownOf]
 | (d, .det c) :: r, k => by
  simp only [List.cons_append, knownOf]
  rw [knownOf_append v y r (k + 1), List.length_cons, show k + 1 + r.length = k + (r.length + 1) by omega]
 | (d, .rel S) :: r, k => by
  simp only [List.cons_append, knownOf]
  rw [knownOf_append v y r (k + 1), List.length_cons, show k + 1 + r.length = k + (r.length + 1) by omega]
theorem putAll_append (v : Nat → Value) (y : Option Tmp × Sp) : ∀ (acc : List (Option Tmp × Sp)) (k : Nat) (a : Act), putAll v k (acc ++ [y]) a = putAll v (k + acc.length) [y] (putAll v k acc a)
 | [], k, a => by simp [putAll]
 | (d, .det c) :: r, k, a => by
  simp only [List.cons_append, putAll]
  rw [putAll_append v y r (k + 1), List.length_cons, show k + 1 + r.length = k + (r.length + 1) by omega]
 | (d, .rel S) :: r, k, a => by
  simp only [List.cons_append, putAll]
  rw [putAll_append v y r (k + 1), List.length_cons, show k + 1 + r.length = k + (r.length + 1) by omega]
theorem facts_of {v : Nat → Value} {o : Oper} {w : World} : ∀ (acc : List (Option Tmp × Sp)) (k : Nat), (∀ j d S, acc[j]? = some (d, Sp.rel S) → dep o (k + j) = true → S (v (k + j)) w) → Facts (knownOf v k acc) o w
 | [], _, _ => fun kF h => by simp [knownOf] at h
 | (d, .det c) :: r, k, h => by
  simp only [knownOf]
  exact facts_of r (k + 1) fun j d' S hj hd => by
   have := h (j + 1) d' S (by simpa using hj) (by rwa [show k + (j + 1) = k + 1 + j by omega])
   rwa [show k + (j + 1) = k + 1 + j by omega] at this
 | (d, .rel S0) :: r, k, h => by
  simp only [knownOf]
  intro kF hm hd
  rcases List.mem_cons.1 hm with rfl | hm
  ·exact h 0 d S0 rfl (by simpa using hd)
  ·exact facts_of r (k + 1) (fun j d' S hj hd => by
    have := h (j + 1) d' S (by simpa using hj) (by rwa [show k + (j + 1) = k + 1 + j by omega])
    rwa [show k + (j + 1) = k + 1 + j by omega] at this) kF hm hd
theorem allFacts_of {v : Nat → Value} {w : World} : ∀ (acc : List (Option Tmp × Sp)) (k : Nat), (∀ j d S, acc[j]? = some (d, Sp.rel S) → S (v (k + j)) w) → AllFacts (knownOf v k acc) w
 | [], _, _ => trivial
 | (d, .det c) :: r, k, h => by
  simp only [knownOf]
  exact allFacts_of r (k + 1) fun j d' S hj => by
   have := h (j + 1) d' S (by simpa using hj)
   rwa [show k + (j + 1) = k + 1 + j by omega] at this
 | (d, .rel S0) :: r, k, h => by
  simp only [knownOf]
  exact ⟨h 0 d S0 rfl, allFacts_of r (k + 1) fun j d' S hj => by
   have := h (j + 1) d' S (by simpa using hj)
   rwa [show k + (j + 1) = k + 1 + j by omega] at this⟩
theorem Obl_of_run {P : Program} {ops : Array Oper} {w0 : World} {a0 : Act} {K : Act → World → Prop} : ∀ (l : List Oper) (sps : List Sp) (acc : List (Option Tmp × Sp)),
  (∀ v : Nat → Value, Run P ops w0 K acc.length l sps (putAll v 0 acc a0) (knownOf v 0 acc)) → Obl P ops w0 a0 K l acc
 | [], sps, acc, h => fun w hw => lexFin_intro acc 0 a0 fun v hv => by
  have := h v
  simp only [Run] at this
  exact this w hw (allFacts_of acc 0 hv)
 | o :: r, [], acc, h => by have := h (fun _ => undef); simp only [Run] at this
 | o :: r, .det c :: sps, acc, h => by
  refine ⟨.det c, trivial, fun w hw => lexAct_intro acc 0 a0 fun v hv => ?_, Obl_of_run r sps _ fun v => ?_⟩
  ·have := h v
   simp only [Run] at this
   exact this.1 w hw (facts_of acc 0 hv)
  ·have := (h v)
   simp only [Run] at this
   have h2 := this.2
   rw [putAll_append, knownOf_append, List.length_append]
   simpa [putAll, knownOf] using h2
 | o :: r, .rel S :: sps, acc, h => by
  refine ⟨.rel S, ?_, fun w hw => lexAct_intro acc 0 a0 fun v hv => ?_, Obl_of_run r sps _ fun v => ?_⟩
  ·have := h (fun _ => undef)
   simp only [Run] at this
   exact this.1
  ·have := h v
   simp only [Run] at this
   exact this.2.1 w hw (facts_of acc 0 hv)
  ·have := h v
   simp only [Run] at this
   have h2 := this.2.2 (v acc.length)
   rw [putAll_append, knownOf_append, List.length_append]
   simpa [putAll, knownOf] using h2
theorem wp_graph {P : Program} {id : Nat} {Q : Exit → Act → World → Prop} {a0 : Act} {w : World} {l : List Oper} (n : Nat) (shape : List Sh) (hm : P.follows .mixedOrders = true)
  (hB : (graphB l.toArray n && tailB l.toArray n) = true) (hsz : ((List.range n).all fun k => match dstAt l.toArray k with | some d => decide (d < a0.tmps.size) | none => true) = true)
  (h : Exs (fun sps => Run P l.toArray w.drew (wpList P l.toArray Q (l.drop n)) 0 (l.take n) sps a0 []) shape) : (Code.region id l.toArray true).wp P Q a0 w := by
 obtain ⟨sps, hs⟩ := Exs_some shape h
 exact wp_region_graph n hm hB hsz (Obl_of_run _ sps [] fun _ => hs)
section
variable {P : Program} {ops : Array Oper} {w0 : World} {K : Act → World → Prop} {i : Nat} {o : Oper} {r : List Oper} {sps : List Sp} {a : Act} {known : List (Nat × (World → Prop))}
theorem wanted_none (hg : o.guard = none) (t : Array Value) : Region.wanted o (yielded ops t) = true := by simp [Region.wanted, hg]
theorem Run.val {c : Value} (hg : o.guard = none) (h : ∀ w, Fut w0 w → Facts known o w → (execOp a.eval o).run P w = .ok (.value c) w) (k : Run P ops w0 K (i + 1) r sps (a.put o.dst c) known) :
  Run P ops w0 K i (o :: r) (.det c :: sps) a known := by
 refine ⟨fun w hw hf => ?_, k⟩
 unfold givesG
 rw [if_pos (wanted_none hg _)]
 unfold gives
 rw [h w hw hf]
 exact ⟨Fut.refl w, rfl⟩
theorem Run.valG {c : Value} (hg : Region.wanted o (yielded ops a.tmps) = true) (h : ∀ w, Fut w0 w → Facts known o w → (execOp a.eval o).run P w = .ok (.value c) w) (k : Run P ops w0 K (i + 1) r sps (a.put o.dst c) known) :
  Run P ops w0 K i (o :: r) (.det c :: sps) a known := by
 refine ⟨fun w hw hf => ?_, k⟩
 unfold givesG
 rw [if_pos hg]
 unfold gives
 rw [h w hw hf]
 exact ⟨Fut.refl w, rfl⟩
theorem Run.skip (hg : Region.wanted o (yielded ops a.tmps) = false) (k : Run P ops w0 K (i + 1) r sps (a.put o.dst undef) known) :
  Run P ops w0 K i (o :: r) (.det undef :: sps) a known := by
 refine ⟨fun w hw hf => ?_, k⟩
 unfold givesG
 rw [if_neg (by rw [hg]; exact Bool.false_ne_true)]
 rfl
theorem Run.call {c : Value} {f : FuncId} {args : Array Value} (hg : Region.wanted o (yielded ops a.tmps) = true) (h : ∀ w, Fut w0 w → (execOp a.eval o).run P w = .ok (.enter f args) w)
  (hc : ∀ w, Fut w0 w → Facts known o w → Calls P f args w fun e w' => e = .returned c ∧ Fut w w') (k : Run P ops w0 K (i + 1) r sps (a.put o.dst c) known) :
  Run P ops w0 K i (o :: r) (.det c :: sps) a known := by
 refine ⟨fun w hw hf => ?_, k⟩
 unfold givesG
 rw [if_pos hg]
 unfold gives
 rw [h w hw]
 exact (hc w hw hf).mono fun e w' ⟨he, hf'⟩ => ⟨c, he, hf', rfl⟩
theorem Run.callR {S : Value → World → Prop} {f : FuncId} {args : Array Value} (hg : Region.wanted o (yielded ops a.tmps) = true) (hm : ∀ v w w', Fut w w' → S v w → S v w') (h : ∀ w, Fut w0 w → (execOp a.eval o).run P w = .ok (.enter f args) w)
  (hc : ∀ w, Fut w0 w → Facts known o w → Calls P f args w fun e w' => ∃ v, e = .returned v ∧ Fut w w' ∧ S v w') (k : ∀ v, Run P ops w0 K (i + 1) r sps (a.put o.dst v) (known ++ [(i, S v)])) :
  Run P ops w0 K i (o :: r) (.rel S :: sps) a known := by
 refine ⟨hm, fun w hw hf => ?_, k⟩
 unfold givesG
 rw [if_pos hg]
 unfold gives
 rw [h w hw]
 exact hc w hw hf
theorem Run.valR {S : Value → World → Prop} (hg : Region.wanted o (yielded ops a.tmps) = true) (hm : ∀ v w w', Fut w w' → S v w → S v w')
  (h : ∀ w, Fut w0 w → Facts known o w → ∃ v w', (execOp a.eval o).run P w = .ok (.value v) w' ∧ Fut w w' ∧ S v w') (k : ∀ v, Run P ops w0 K (i + 1) r sps (a.put o.dst v) (known ++ [(i, S v)])) :
  Run P ops w0 K i (o :: r) (.rel S :: sps) a known := by
 refine ⟨hm, fun w hw hf => ?_, k⟩
 unfold givesG
 rw [if_pos hg]
 unfold gives
 obtain ⟨v, w', he, h1, h2⟩ := h w hw hf
 rw [he]
 exact ⟨h1, h2⟩
theorem Run.done (h : ∀ w, Fut w0 w → AllFacts known w → K a w) : Run P ops w0 K i [] sps a known := h
end
theorem actS : (∀ (a : Act) (v : Value) (d : Tmp), a.put (some d) v = { tmps := a.tmps.setIfInBounds d v, defers := a.defers }) ∧ (∀ (a : Act) (v : Value), a.put none v = a) ∧ (∀ {α : Type} (l : List α) (i : Nat) (a : α), l.toArray.setIfInBounds i a = (l.set i a).toArray) ∧ (∀ {α : Type} (x : α) (xs : List α) (i : Nat) (a : α), (x :: xs).set (i + 1) a = x :: xs.set i a) ∧ (∀ {α : Type} (x : α) (xs : List α) (a : α), (x :: xs).set 0 a = a :: xs) ∧ (∀ {α : Type} (l : List α), [] ++ l = l) ∧ (∀ {α : Type} (a : α) (l m : List α), a :: l ++ m = a :: (l ++ m)) :=
  ⟨fun _ _ _ => rfl, fun _ _ => rfl, fun _ _ _ => List.setIfInBounds_toArray .., fun _ _ _ _ => rfl, fun _ _ _ => rfl, fun _ => rfl, fun _ _ _ => rfl⟩
theorem takS : (∀ {α : Type} {n : Nat} {a : α} {l : List α}, (a :: l).take (n + 1) = a :: l.take n) ∧ (∀ {α : Type} {l : List α}, l.take 0 = []) ∧ (∀ {α : Type} {n : Nat} {a : α} {l : List α}, (a :: l).drop (n + 1) = l.drop n) ∧ (∀ {α : Type} {l : List α}, l.drop 0 = l) :=
  ⟨List.take_succ_cons, List.take_zero, List.drop_succ_cons, List.drop_zero⟩
end Go.Proofs.YtdjffkkbjbiihaaGreatDoor
