/- Parts. -/
import Derived.StillTail
import Derived.Tactics
import Derived.Below
import Derived.ProofKit
import Derived.WideKeyArgs
import Derived.Deep.Slices
import Derived.Carry
import Derived.Laws.IdiomStrings
import Derived.Laws.MakeOwn
import Derived.Laws.Entries
import Derived.SizedLaws
import Derived.Laws.AppendOwn
import Derived.OwnWalk
set_option linter.unusedSimpArgs false
set_option linter.unusedVariables false
namespace Go.Proofs.YtobabnpllokkaaaGreatDoor
open Go.RowKit
def Fut (w w':World):Prop:=Below w.heap.size w w'
theorem Fut.refl (w:World):Fut w w:=Below.refl _ _
theorem Fut.trans {a b c:World} (h:Fut a b) (k:Fut b c):Fut a c:=Below.trans h (Below.mono k h.size)
theorem Fut.drew (w:World):Fut w w.drew:=(Below.refl _ _).drew
theorem Fut.alloc (w:World) (o:Obj):Fut w (w.alloc o):=(Below.refl _ _).alloc (Nat.le_refl _) o
theorem lt_of_cell {w:World} {p:Addr} {v:Value} (h:w.cell? p=some v):p.block<w.heap.size:=by
 rcases Nat.lt_or_ge p.block w.heap.size with h'|h'
 ·exact h'
 ·unfold World.cell? at h;rw [Array.getElem?_eq_none h'] at h;cases h
theorem Fut.cell {w w':World} (h:Fut w w') {p:Addr} {v:Value} (hc:w.cell? p=some v):w'.cell? p=some v :=
 (Below.cell h (lt_of_cell hc)).trans hc
theorem Fut.block {w w':World} (h:Fut w w') {g:Nat} {o:Obj} (hc:w.heap[g]?=some o):w'.heap[g]?=some o:=by
 have hlt:g<w.heap.size:=by
  rcases Nat.lt_or_ge g w.heap.size with h'|h'
  ·exact h'
  ·rw [Array.getElem?_eq_none h'] at hc;cases hc
 exact (Below.block h g hlt).trans hc
inductive Sp where
 | det (c:Value)
 | rel (S:Value→World→Prop)
def Sp.holds:Sp→Value→World→Prop
 | .det c,v,_ => v=c
 | .rel S,v,w => S v w
def Sp.mono:Sp→Prop
 | .det _ => True
 | .rel S => ∀ v w w',Fut w w'→S v w→S v w'
theorem Sp.holds_mono {s:Sp} (h:s.mono) {v:Value} {w w':World} (hf:Fut w w') (hs:s.holds v w):s.holds v w':=by
 cases s with
 | det c => exact hs
 | rel S => exact h v w w' hf hs
def givesUpon (P:Program) (s:Sp) (w:World):Result Next→Prop
 | .ok (.value v) w' => Fut w w'∧s.holds v w'
 | .ok .skip w' => Fut w w'∧s.holds undef w'
 | .ok (.enter f args) w' => Calls P f args w' (fun e w'' => ∃ v,e = .returned v∧Fut w w''∧s.holds v w'')
 | _ => False
def gives (P:Program) (o:Oper) (a:Act) (s:Sp) (w:World):Prop:=givesUpon P s w ((execOp a.eval o).run P w)
def givesG (P:Program) (ops:Array Oper) (o:Oper) (a:Act) (s:Sp) (w:World):Prop :=
 if Region.wanted o (yielded ops a.tmps)=true then gives P o a s w else s.holds undef w
def dep (o:Oper) (k:Nat):Bool:=o.after.any fun e => Region.binds .any e && e.on == k
def lexAct (o:Oper) (w:World) (K:Act→Prop):Nat→List (Option Tmp×Sp)→Act→Prop
 | _,[],a => K a
 | k,(d,.det c) :: r,a => lexAct o w K (k+1) r (a.put d c)
 | k,(d,.rel S) :: r,a => ∀ v,(dep o k=true→S v w)→lexAct o w K (k+1) r (a.put d v)
def lexFin (w:World) (K:Act→Prop):List (Option Tmp×Sp)→Act→Prop
 | [],a => K a
 | (d,.det c) :: r,a => lexFin w K r (a.put d c)
 | (d,.rel S) :: r,a => ∀ v,S v w→lexFin w K r (a.put d v)
def Obl (P:Program) (ops:Array Oper) (w0:World) (a0:Act) (K:Act→World→Prop):List Oper→List (Option Tmp×Sp)→Prop
 | [],acc => ∀ w,Fut w0 w→lexFin w (fun a => K a w) acc a0
 | o :: r,acc => ∃ s:Sp,s.mono∧(∀ w,Fut w0 w→lexAct o w (fun a => givesG P ops o a s w) 0 acc a0)∧Obl P ops w0 a0 K r (acc++[(o.dst,s)])
def putAll (v:Nat→Value):Nat→List (Option Tmp×Sp)→Act→Act
 | _,[],a => a
 | k,(d,.det c) :: r,a => putAll v (k+1) r (a.put d c)
 | k,(d,.rel _) :: r,a => putAll v (k+1) r (a.put d (v k))
theorem lexAct_inst {o:Oper} {w:World} {K:Act→Prop} (v:Nat→Value):∀ (acc:List (Option Tmp×Sp)) (k:Nat) (a:Act),lexAct o w K k acc a →
    (∀ j d S,acc[j]?=some (d,Sp.rel S)→dep o (k+j)=true→S (v (k+j)) w)→K (putAll v k acc a)
 | [],_,_,h,_ => h
 | (d,.det c) :: r,k,a,h,hv => by
  simp only [lexAct] at h;simp only [putAll]
  exact lexAct_inst v r (k+1) _ h fun j d' S hj hd => by
   have:=hv (j+1) d' S (by simpa using hj) (by rwa [show k+(j+1)=k+1+j by omega])
   rwa [show k+(j+1)=k+1+j by omega] at this
 | (d,.rel S) :: r,k,a,h,hv => by
  simp only [lexAct] at h;simp only [putAll]
  exact lexAct_inst v r (k+1) _ (h (v k) (hv 0 d S rfl)) fun j d' S hj hd => by
   have:=hv (j+1) d' S (by simpa using hj) (by rwa [show k+(j+1)=k+1+j by omega])
   rwa [show k+(j+1)=k+1+j by omega] at this
theorem lexFin_inst {w:World} {K:Act→Prop} (v:Nat→Value):∀ (acc:List (Option Tmp×Sp)) (k:Nat) (a:Act),lexFin w K acc a →
    (∀ j d S,acc[j]?=some (d,Sp.rel S)→S (v (k+j)) w)→K (putAll v k acc a)
 | [],_,_,h,_ => h
 | (d,.det c) :: r,k,a,h,hv => by
  simp only [lexFin] at h;simp only [putAll]
  exact lexFin_inst v r (k+1) _ h fun j d' S hj => by
   have:=hv (j+1) d' S (by simpa using hj)
   rwa [show k+(j+1)=k+1+j by omega] at this
 | (d,.rel S) :: r,k,a,h,hv => by
  simp only [lexFin] at h;simp only [putAll]
  exact lexFin_inst v r (k+1) _ (h (v k) (hv 0 d S rfl)) fun j d' S hj => by
   have:=hv (j+1) d' S (by simpa using hj)
   rwa [show k+(j+1)=k+1+j by omega] at this
theorem put_size (a:Act) (d:Option Tmp) (v:Value):(a.put d v).tmps.size=a.tmps.size:=by cases d <;> simp [Act.put]
theorem put_defers' (a:Act) (d:Option Tmp) (v:Value):(a.put d v).defers=a.defers:=by cases d <;> rfl
theorem put_other (a:Act) (d:Option Tmp) (v:Value) (t:Tmp) (h:d≠some t):(a.put d v).tmps[t]?=a.tmps[t]?:=by
 cases d with
 | none => rfl
 | some d => simp only [Act.put];exact Array.getElem?_setIfInBounds_ne (fun e => h (by rw [e]))
theorem put_same (a:Act) (t:Tmp) (v:Value) (h:t<a.tmps.size):(a.put (some t) v).tmps[t]?=some v:=by
 simp [Act.put,h]
theorem putAll_other (v:Nat→Value) (t:Tmp):∀ (acc:List (Option Tmp×Sp)) (k:Nat) (a:Act),(∀ d s,(d,s) ∈ acc→d≠some t)→(putAll v k acc a).tmps[t]?=a.tmps[t]?
 | [],_,_,_ => rfl
 | (d,.det c) :: r,k,a,h => by
  simp only [putAll];rw [putAll_other v t r (k+1) _ fun d' s' hm => h d' s' (List.mem_cons_of_mem _ hm)];exact put_other _ _ _ _ (h d (Sp.det c) (by simp))
 | (d,.rel S) :: r,k,a,h => by
  simp only [putAll];rw [putAll_other v t r (k+1) _ fun d' s' hm => h d' s' (List.mem_cons_of_mem _ hm)];exact put_other _ _ _ _ (h d (Sp.rel S) (by simp))
def valAt (v:Nat→Value) (k:Nat):Sp→Value
 | .det c => c
 | .rel _ => v k
theorem putAll_at (v:Nat→Value) (t:Tmp):∀ (acc:List (Option Tmp×Sp)) (k:Nat) (a:Act) (j:Nat) (s:Sp),t<a.tmps.size→acc[j]?=some (some t,s) →
    (∀ i d s',acc[i]?=some (d,s')→d=some t→i=j)→(putAll v k acc a).tmps[t]?=some (valAt v (k+j) s)
 | [],_,_,j,s,_,h,_ => by simp at h
 | (d,s0) :: r,k,a,0,s,ht,h,hu => by
  simp only [List.getElem?_cons_zero,Option.some.injEq,Prod.mk.injEq] at h;obtain ⟨rfl,rfl⟩:=h
  have hno:∀ d' s',(d',s') ∈ r→d'≠some t:=fun d' s' hm e => by
   obtain ⟨i,hi⟩:=List.getElem?_of_mem hm;have:=hu (i+1) d' s' (by simpa using hi) e;omega
  cases s0 with
  | det c => simp only [putAll];rw [putAll_other v t r _ _ hno,put_same _ _ _ ht];rfl
  | rel S => simp only [putAll];rw [putAll_other v t r _ _ hno,put_same _ _ _ ht];rfl
 | (d,s0) :: r,k,a,j+1,s,ht,h,hu => by
  have h':r[j]?=some (some t,s):=by simpa using h
  have hu':∀ i d s',r[i]?=some (d,s')→d=some t→i=j:=fun i d' s' hi e => by
   have:=hu (i+1) d' s' (by simpa using hi) e;omega
  cases s0 with
  | det c =>
   simp only [putAll];rw [putAll_at v t r (k+1) _ j s (by rw [put_size];exact ht) h' hu',show k+1+j=k+(j+1) by omega]
  | rel S =>
   simp only [putAll];rw [putAll_at v t r (k+1) _ j s (by rw [put_size];exact ht) h' hu',show k+1+j=k+(j+1) by omega]
def dstAt (ops:Array Oper) (k:Nat):Option Tmp:=(ops[k]?).bind (·.dst)
def graphB (ops:Array Oper) (n:Nat):Bool :=
 Region.noSelect ops && decide (n≤ops.size) &&
 (List.range n).all fun i => match ops[i]? with
  | none => false
  | some o =>
   (o.after.all fun e => !Region.binds .any e || decide (e.on<i)) &&
   (match o.dst with
    | none => true
    | some d => (List.range i).all fun k => dstAt ops k != some d) &&
   ((o.looksAt ops).all fun t => (List.range n).all fun k => dstAt ops k != some t || (if k<i then dep o k else k == i || (match ops[k]? with|some ok => dep ok i|none => false)))
structure GInv (ops:Array Oper) (n:Nat) (sp:Nat→Sp) (a0:Act) (w0:World) (vs:Nat→Value) (listed:Array Bool) (a:Act) (w:World):Prop where
 size:a.tmps.size=a0.tmps.size
 defers:a.defers=a0.defers
 fut:Fut w0 w
 free:∀ t,(∀ k,k<n→listed.getD k false=true→dstAt ops k≠some t)→a.tmps[t]?=a0.tmps[t]?
 held:∀ k,k<n→listed.getD k false=true→(sp k).holds (vs k) w
 slot:∀ k d,k<n→listed.getD k false=true→dstAt ops k=some d→a.tmps[d]?=some (vs k)
 lsize:listed.size=ops.size
 closed:∀ j oj,ops[j]?=some oj→listed.getD j false=true→∀ e ∈ oj.after,Region.binds .any e=true→listed.getD e.on false=true
 tail:∀ t,n≤t→t<ops.size→listed.getD t true=false
theorem act_ext {a b:Act} (h1:∀ t:Nat,a.tmps[t]?=b.tmps[t]?) (h2:a.defers=b.defers):a=b:=by
 cases a;cases b
 simp only at h1 h2;subst h2;congr 1;exact Array.ext_getElem? h1
theorem graphB_spec {ops:Array Oper} {n:Nat} (h:graphB ops n=true):Region.noSelect ops=true∧n≤ops.size∧∀ i,i<n→∃ o,ops[i]?=some o ∧
    (∀ e ∈ o.after,Region.binds .any e=true→e.on<i)∧(∀ d,o.dst=some d→∀ k,k<i→dstAt ops k≠some d) ∧
    (∀ t ∈ o.looksAt ops,∀ k,k<n→dstAt ops k=some t→(k<i→dep o k=true)∧(i<k→∃ ok,ops[k]?=some ok∧dep ok i=true)):=by
 simp only [graphB,Bool.and_eq_true,decide_eq_true_eq,List.all_eq_true,List.mem_range] at h;obtain ⟨⟨h1,h2⟩,h3⟩:=h;refine ⟨h1,h2,fun i hi => ?_⟩;have:=h3 i hi;cases ho:ops[i]? with
 | none => simp [ho] at this
 | some o =>
  simp only [ho,Bool.and_eq_true] at this;obtain ⟨⟨h4,h5⟩,h6⟩:=this;refine ⟨o,rfl,fun e he hb => ?_,fun d hd k hk => ?_,fun t ht k hk hd => ⟨fun hki => ?_,fun hik => ?_⟩⟩
  ·have:=Array.all_eq_true_iff_forall_mem.1 h4 e he;simpa [hb] using this
  ·simp only [hd,List.all_eq_true,List.mem_range] at h5;simpa using h5 k hk
  ·have h7:=List.all_eq_true.1 (List.all_eq_true.1 h6 t ht) k (List.mem_range.2 hk);simp only [hd,bne_self_eq_false,Bool.false_or,hki,if_true] at h7;exact h7
  ·have h7:=List.all_eq_true.1 (List.all_eq_true.1 h6 t ht) k (List.mem_range.2 hk);have hn:¬ k<i:=by omega
   have hne:(k == i)=false:=by simp;omega
   simp only [hd,bne_self_eq_false,Bool.false_or,hn,if_false,hne] at h7;cases hok:ops[k]? with
   | none => simp [hok] at h7
   | some ok => exact ⟨ok,rfl,by simpa [hok] using h7⟩
theorem dep_spec {o:Oper} {k:Nat} (h:dep o k=true):∃ e ∈ o.after,Region.binds .any e=true∧e.on=k:=by
 unfold dep at h;obtain ⟨e,he,hb⟩:=Array.any_eq_true'.1 h;simp only [Bool.and_eq_true,beq_iff_eq] at hb;exact ⟨e,he,hb⟩
theorem Obl_split {P:Program} {ops:Array Oper} {w0:World} {a0:Act} {K:Act→World→Prop}:∀ (l:List Oper) (acc:List (Option Tmp×Sp)),Obl P ops w0 a0 K l acc →
    ∃ full:List (Option Tmp×Sp),full.length=acc.length+l.length∧full.take acc.length=acc ∧
     (∀ j o,l[j]?=some o→∃ s,full[acc.length+j]?=some (o.dst,s)∧s.mono∧∀ w,Fut w0 w→lexAct o w (fun a => givesG P ops o a s w) 0 (full.take (acc.length+j)) a0) ∧
     (∀ w,Fut w0 w→lexFin w (fun a => K a w) full a0)
 | [],acc,h => ⟨acc,by simp,by simp,fun j o hj => by simp at hj,h⟩
 | o :: r,acc,h => by
  obtain ⟨s,hm,h1,h2⟩:=h;obtain ⟨full,hl,ht,hall,hfin⟩:=Obl_split r _ h2;have hlen:(acc++[(o.dst,s)]).length=acc.length+1:=by simp
  rw [hlen] at hl ht hall
  have ht':full.take acc.length=acc:=by
   have:=congrArg (List.take acc.length) ht;simpa [List.take_take,Nat.min_eq_left (Nat.le_succ _)] using this
  refine ⟨full,by simp only [List.length_cons];omega,ht',fun j o' hj => ?_,hfin⟩;cases j with
  | zero =>
   simp only [List.getElem?_cons_zero,Option.some.injEq] at hj;subst hj;refine ⟨s,?_,hm,fun w hw => by rw [Nat.add_zero,ht'];exact h1 w hw⟩;have:=congrArg (fun x => x[acc.length]?) ht;simpa [List.getElem?_take] using this
  | succ j =>
   have:=hall j o' (by simpa using hj)
   rwa [show acc.length+1+j=acc.length+(j+1) by omega] at this
section
variable {P:Program} {ops:Array Oper} {n:Nat} {sp:Nat→Sp} {a0:Act} {w0:World} {vs:Nat→Value} {listed:Array Bool} {a:Act} {w:World}
theorem GInv.step {full:List (Option Tmp×Sp)} {i:Nat} {Q:Exit→Act→World→Prop} {K:Act→World→Prop} (inv:GInv ops n sp a0 w0 vs listed a w) (hB:graphB ops n=true)
    (hbd:∀ k d,dstAt ops k=some d→k<n→d<a0.tmps.size)
    (hsp:∀ k,k<n→full[k]?=some (dstAt ops k,sp k)) (_hfl:full.length=n) (hmono:∀ k,k<n→(sp k).mono)
    (hob:∀ o,ops[i]?=some o→∀ w,Fut w0 w→lexAct o w (fun a => givesG P ops o a (sp i) w) 0 (full.take i) a0)
    (hi:i ∈ Region.ready .any ops listed) (hin:i<n)
    (hK:∀ v a' w',GInv ops n sp a0 w0 (fun k => if k=i then v else vs k) (listed.setIfInBounds i true) a' w'→K a' w'):wpOp P ops Q i K a w:=by
 obtain ⟨hsel,hns,hg⟩:=graphB_spec hB;obtain ⟨hun,o,ho,hall⟩:=mem_ready.1 hi;obtain ⟨o',ho',hedge,hdist,hlook⟩:=hg i hin;obtain rfl:o=o':=Option.some.inj (ho.symm.trans ho');have hunf:listed.getD i false=false:=getD_both hun
 have hdep:∀ k,dep o k=true→listed.getD k false=true:=fun k hk => by
  obtain ⟨e,he,hb,rfl⟩:=dep_spec hk;exact hall e he hb
 have hlex:=lexAct_inst vs _ 0 a0 (hob o ho w inv.fut) fun j d S hj hd => by
  rw [Nat.zero_add] at hd ⊢;rw [List.getElem?_take] at hj
  split at hj
  ·rename_i hji;have h1:=hsp j (by omega);rw [hj] at h1;simp only [Option.some.injEq,Prod.mk.injEq] at h1;have:=inv.held j (by omega) (hdep j hd);rw [← h1.2] at this;exact this
  ·cases hj
 have hslot:∀ t ∈ o.looksAt ops,a.tmps[t]?=(putAll vs 0 (full.take i) a0).tmps[t]?:=fun t ht => by
  by_cases hex:∃ k,k<i∧dstAt ops k=some t
  ·obtain ⟨k,hki,hkd⟩:=hex;have hkn:k<n:=by omega
   have hkl:=hdep k ((hlook t ht k hkn hkd).1 hki);have h1:(full.take i)[k]?=some (some t,sp k):=by rw [List.getElem?_take,if_pos hki,hsp k hkn,hkd]
   rw [inv.slot k t hkn hkl hkd,putAll_at vs t _ 0 a0 k (sp k) (hbd k t hkd hkn) h1,Nat.zero_add]
   ·have h2:=inv.held k hkn hkl;cases hs:sp k with
    | det c => rw [hs] at h2;simp only [Sp.holds] at h2;rw [h2];rfl
    | rel S => rfl
   ·intro j d s' hj hd;rw [List.getElem?_take] at hj
    split at hj
    ·rename_i hji;rw [hsp j (by omega)] at hj;simp only [Option.some.injEq,Prod.mk.injEq] at hj;have hjd:dstAt ops j=some t:=hj.1.trans hd;rcases Nat.lt_trichotomy j k with h'|h'|h'
     ·obtain ⟨ok,hok,_,hd2,_⟩:=hg k hkn;exact absurd hjd (hd2 t (by simpa [dstAt,hok] using hkd) j h')
     ·exact h'
     ·obtain ⟨oj,hoj,_,hd2,_⟩:=hg j (by omega);exact absurd hkd (hd2 t (by simpa [dstAt,hoj] using hjd) k h')
    ·cases hj
  ·rw [putAll_other]
   ·refine inv.free t fun k hkn hkl hkd => ?_;rcases Nat.lt_trichotomy k i with h'|h'|h'
    ·exact hex ⟨k,h',hkd⟩
    ·subst h';rw [hunf] at hkl;cases hkl
    ·obtain ⟨ok,hok,hdk⟩:=(hlook t ht k hkn hkd).2 h';obtain ⟨e,he,hb,hei⟩:=dep_spec hdk;have:=inv.closed k ok hok hkl e he hb;rw [hei,hunf] at this;cases this
   ·intro d s hm hd;obtain ⟨j,hj⟩:=List.getElem?_of_mem hm;rw [List.getElem?_take] at hj
    split at hj
    ·rename_i hji;rw [hsp j (by omega)] at hj;simp only [Option.some.injEq,Prod.mk.injEq] at hj;exact hex ⟨j,hji,hj.1.trans hd⟩
    ·cases hj
 have hexec:execOp a.eval o=execOp (putAll vs 0 (full.take i) a0).eval o:=execOp_congr o (fun cs b => Region.noSelect_spec hsel i o cs b ho) fun x hx => by
  cases x with
  | tmp t =>
   have:=hslot t (List.mem_append_left _ (List.mem_filterMap.2 ⟨.tmp t,by simpa using hx,rfl⟩));simp only [Act.eval,Array.getD_eq_getD_getElem?,this]
  | _ => rfl
 have hwant:Region.wanted o (yielded ops a.tmps)=Region.wanted o (yielded ops (putAll vs 0 (full.take i) a0).tmps):=by
  unfold Region.wanted;cases hgd:o.guard with
  | none => rfl
  | some gw =>
   obtain ⟨g,want⟩:=gw
   have hy:yielded ops a.tmps g=yielded ops (putAll vs 0 (full.take i) a0).tmps g:=by
    unfold yielded;cases ht:(ops[g]?).bind (·.dst) with
    | none => rfl
    | some t =>
     have:=hslot t (by simp [Oper.looksAt,hgd,ht]);simp only [Option.bind_some,this]
   simp only [hy]
 have hdi:dstAt ops i=o.dst:=by simp [dstAt,ho]
 -- the invariant behind it
 have hnew:∀ v w',Fut w w'→(sp i).holds v w'→GInv ops n sp a0 w0 (fun k => if k=i then v else vs k) (listed.setIfInBounds i true) (a.put o.dst v) w':=fun v w' hf hv => by
  have hil:i<listed.size:=by rw [inv.lsize];omega
  have hset:∀ k,k≠i→(listed.setIfInBounds i true).getD k false=listed.getD k false:=fun k hk => getD_set_ne false (Ne.symm hk);refine ⟨by rw [put_size];exact inv.size,by rw [put_defers'];exact inv.defers,inv.fut.trans hf,fun t ht => ?_,fun k hk hl => ?_,fun k d hk hl hd => ?_,by simp [inv.lsize],fun j oj hj hl e he hb => ?_,fun t ht ht' => by rw [getD_set_ne true (by omega)];exact inv.tail t ht ht'⟩
  ·have hit:o.dst≠some t:=by rw [← hdi];exact ht i hin (by simp [hil])
   rw [put_other _ _ _ _ hit];refine inv.free t fun k hk hl => ht k hk ?_
   by_cases hki:k=i
   ·subst hki;simp [hil]
   ·rw [hset k hki];exact hl
  ·by_cases hki:k=i
   ·subst hki;simpa using hv
   ·simp only [hki,if_false];rw [hset k hki] at hl;exact Sp.holds_mono (hmono k hk) hf (inv.held k hk hl)
  ·by_cases hki:k=i
   ·subst hki;have hod:o.dst=some d:=by rw [← hdi];exact hd
    rw [hod];show _=some (if k=k then v else vs k);rw [if_pos rfl];exact put_same _ _ _ (by rw [inv.size];exact hbd k d hd hk)
   ·simp only [hki,if_false];rw [hset k hki] at hl;rw [put_other]
    ·exact inv.slot k d hk hl hd
    ·intro hod;have hid:dstAt ops i=some d:=hdi.trans hod;rcases Nat.lt_or_ge k i with h'|h'
     ·exact hdist d hod k h' hd
     ·obtain ⟨ok,hok,_,hd2,_⟩:=hg k hk;exact hd2 d (by simpa [dstAt,hok] using hd) i (by omega) hid
  ·by_cases hij:i=j
   ·subst hij;have:oj=o:=Option.some.inj (hj.symm.trans ho);subst this;exact getD_set_true (hall e he hb)
   ·rw [getD_set_ne false hij] at hl;exact getD_set_true (inv.closed j oj hj hl e he hb)
 unfold wpOp;simp only [ho];unfold givesG at hlex;rw [← hwant] at hlex
 split
 ·rename_i hw;rw [if_pos hw] at hlex;refine .inl ?_;unfold gives at hlex;rw [← hexec] at hlex;unfold Oper.wp;generalize (execOp a.eval o).run P w=r at hlex ⊢;cases r with
  | ok nx w' =>
   cases nx <;> simp only [givesUpon] at hlex <;> simp only [Oper.upon]
   case value u => exact hK u _ _ (hnew u w' hlex.1 hlex.2)
   case skip => exact hK undef _ _ (hnew undef w' hlex.1 hlex.2)
   case enter f args =>
    refine Calls.mono hlex fun e w'' he => ?_;obtain ⟨v,rfl,hf,hv⟩:=he;exact hK v _ _ (hnew v w'' hf hv)
  | halt x w' => simp only [givesUpon] at hlex
 ·rename_i hw;rw [if_neg hw] at hlex;exact hK undef _ _ (hnew undef w (Fut.refl w) hlex)
end
def unl (listed:Array Bool):Nat→Nat
 | 0 => 0
 | n+1 => unl listed n+(if listed.getD n false=true then 0 else 1)
theorem unl_same {l l':Array Bool}:∀ n,(∀ k,k<n→l'.getD k false=l.getD k false)→unl l' n=unl l n
 | 0,_ => rfl
 | n+1,h => by simp only [unl];rw [unl_same n fun k hk => h k (by omega),h n (by omega)]
theorem unl_set {l:Array Bool} {i:Nat} (hl:l.getD i false=false) (hi:i<l.size):∀ n,i<n→unl (l.setIfInBounds i true) n+1=unl l n
 | 0,h => absurd h (by omega)
 | n+1,h => by
  simp only [unl]
  by_cases hin:i=n
  ·subst hin;rw [unl_same i fun k hk => getD_set_ne false (by omega)];simp [hi] at hl ⊢;simp [hl]
  ·have:=unl_set hl hi n (by omega);rw [getD_set_ne false hin];omega
theorem unl_zero {l:Array Bool}:∀ n,unl l n=0→∀ k,k<n→l.getD k false=true
 | 0,_,k,hk => absurd hk (by omega)
 | n+1,h,k,hk => by
  simp only [unl] at h
  by_cases hkn:k=n
  ·subst hkn
   by_cases hl:l.getD k false=true
   ·exact hl
   ·rw [if_neg hl] at h;omega
  ·exact unl_zero n (by omega) k (by omega)
theorem unl_some {l:Array Bool}:∀ n,unl l n≠0→∃ i,i<n∧l.getD i false=false∧∀ k,k<i→l.getD k false=true
 | 0,h => absurd rfl h
 | n+1,h => by
  by_cases h0:unl l n=0
  ·refine ⟨n,by omega,?_,unl_zero n h0⟩;simp only [unl,h0] at h;cases hl:l.getD n false with
   | true => simp only [hl] at h;simp at h
   | false => rfl
  ·obtain ⟨i,hi,h1,h2⟩:=unl_some n h0;exact ⟨i,by omega,h1,h2⟩
theorem unl_none:∀ (m n:Nat),unl (Array.replicate m false) n=n
 | _,0 => rfl
 | m,n+1 => by simp only [unl];rw [unl_none m n,getD_replicate_false];simp
def headDone (n m:Nat):Array Bool:=((List.range m).map fun k => decide (k<n)).toArray
def sinkB (ops:Array Oper) (n:Nat):Bool :=
 decide (n=ops.size) || (Region.sinkB .any ops n && Region.chainB .any ops n)
def tailB (ops:Array Oper) (n:Nat):Bool:=sinkB ops n && Region.seqB .any ops (ops.size - n) n (headDone n ops.size)
theorem wp_region_graph {P:Program} {id:Nat} {Q:Exit→Act→World→Prop} {a0:Act} {w:World} {l:List Oper} (n:Nat) (hm:P.follows .mixedOrders=true)
    (hB:(graphB l.toArray n && tailB l.toArray n)=true) (hsz:((List.range n).all fun k => match dstAt l.toArray k with|some d => decide (d<a0.tmps.size)|none => true)=true)
    (h:Obl P l.toArray w.drew a0 (wpList P l.toArray Q (l.drop n)) (l.take n) []):(Code.region id l.toArray true).wp P Q a0 w:=by
 simp only [Bool.and_eq_true,tailB] at hB;obtain ⟨hG,hS,hseq⟩:=hB;obtain ⟨hsel,hns,hg⟩:=graphB_spec hG;have hnl:n≤l.length:=by simpa using hns
 have hbd:∀ k d,dstAt l.toArray k=some d→k<n→d<a0.tmps.size:=fun k d hd hk => by
  have:=List.all_eq_true.1 hsz k (List.mem_range.2 hk);simpa [hd] using this
 obtain ⟨full,hfl,_,hob,hfin⟩:=Obl_split _ _ h;simp only [List.length_nil,Nat.zero_add] at hfl hob;have htl:(l.take n).length=n:=by simp;omega
 rw [htl] at hfl
 -- the specifications
 obtain ⟨sp,hsp⟩:∃ sp:Nat→Sp,∀ k,sp k=((full[k]?).map (·.2)).getD (.det undef):=⟨_,fun _ => rfl⟩
 have hfull:∀ k,k<n→∃ o,l[k]?=some o∧full[k]?=some (dstAt l.toArray k,sp k)∧(sp k).mono ∧
     ∀ w',Fut w.drew w'→lexAct o w' (fun a => givesG P l.toArray o a (sp k) w') 0 (full.take k) a0:=fun k hk => by
  have hlk:l[k]?=some (l[k]'(by omega)):=List.getElem?_eq_getElem (by omega);obtain ⟨s,hs,hmono,hlex⟩:=hob k _ (by rw [List.getElem?_take,if_pos hk];exact hlk);have hspk:sp k=s:=by rw [hsp,hs];rfl
  refine ⟨_,hlk,?_,by rw [hspk];exact hmono,by rw [hspk];exact hlex⟩;rw [hs,hspk];simp [dstAt,hlk]
 refine wp_region_any hm ?_
 have main:∀ (f:Nat) (listed:Array Bool) (a:Act) (w':World) (vs:Nat→Value),GInv l.toArray n sp a0 w.drew vs listed a w'→unl listed n=f →
     wpAny P .any l.toArray Q (f+(l.length - n)) listed a w':=by
  intro f
  induction f with
  | zero =>
   intro listed a w' vs inv hf;rw [Nat.zero_add]
   have hlisted:listed=headDone n l.length:=by
    refine Array.ext_getElem? fun t => ?_
    by_cases ht:t<l.length
    ·have hts:t<listed.size:=by rw [inv.lsize];simpa using ht
     have h2:(headDone n l.length)[t]?=some (decide (t<n)):=by simp [headDone,ht]
     rw [h2,Array.getElem?_eq_getElem hts]
     by_cases htn:t<n
     ·have:=unl_zero n hf t htn;simp [hts] at this;simp [htn,this]
     ·have:=inv.tail t (by omega) (by simpa using ht);simp [hts] at this;simp [htn,this]
    ·rw [Array.getElem?_eq_none (by rw [inv.lsize];simp;omega),Array.getElem?_eq_none (by simp [headDone];omega)]
   have hlast:=lexFin_inst (K:=fun a => wpList P l.toArray Q (l.drop n) a w') vs full 0 a0 (hfin w' inv.fut) fun j d S hj => by
    rw [Nat.zero_add];have hjn:j<n:=by rw [← hfl];exact (List.getElem?_eq_some_iff.1 hj).1
    obtain ⟨_,_,h1,_,_⟩:=hfull j hjn;rw [hj] at h1;simp only [Option.some.injEq,Prod.mk.injEq] at h1;have:=inv.held j hjn (unl_zero n hf j hjn);rw [← h1.2] at this;exact this
   have hact:a=putAll vs 0 full a0:=by
    refine act_ext (fun t => ?_) ?_
    ·by_cases hex:∃ k,k<n∧dstAt l.toArray k=some t
     ·obtain ⟨k,hk,hkd⟩:=hex;obtain ⟨_,_,h1,_,_⟩:=hfull k hk;rw [hkd] at h1;rw [inv.slot k t hk (unl_zero n hf k hk) hkd,putAll_at vs t full 0 a0 k (sp k) (hbd k t hkd hk) h1,Nat.zero_add]
      ·have h2:=inv.held k hk (unl_zero n hf k hk);cases hs:sp k with
       | det c => rw [hs] at h2;simp only [Sp.holds] at h2;rw [h2];rfl
       | rel S => rfl
      ·intro j d s' hj hd;have hjn:j<n:=by rw [← hfl];exact (List.getElem?_eq_some_iff.1 hj).1
       obtain ⟨_,_,h3,_,_⟩:=hfull j hjn;rw [hj] at h3;simp only [Option.some.injEq,Prod.mk.injEq] at h3;have hjd:dstAt l.toArray j=some t:=h3.1.symm.trans hd;rcases Nat.lt_trichotomy j k with h'|h'|h'
       ·obtain ⟨ok,hok,_,hd2,_⟩:=hg k hk;exact absurd hjd (hd2 t (by simpa [dstAt,hok] using hkd) j h')
       ·exact h'
       ·obtain ⟨oj,hoj,_,hd2,_⟩:=hg j hjn;exact absurd hkd (hd2 t (by simpa [dstAt,hoj] using hjd) k h')
     ·rw [inv.free t fun k hk _ hd => hex ⟨k,hk,hd⟩,putAll_other];intro d s hmem hd;obtain ⟨j,hj⟩:=List.getElem?_of_mem hmem;have hjn:j<n:=by rw [← hfl];exact (List.getElem?_eq_some_iff.1 hj).1
      obtain ⟨_,_,h3,_,_⟩:=hfull j hjn;rw [hj] at h3;simp only [Option.some.injEq,Prod.mk.injEq] at h3;exact hex ⟨j,hjn,h3.1.symm.trans hd⟩
    ·rw [inv.defers]
     have:∀ (acc:List (Option Tmp×Sp)) (k:Nat) (b:Act),(putAll vs k acc b).defers=b.defers:=by
      intro acc
      induction acc with
      | nil => intro k b;rfl
      | cons x r ih =>
       intro k b;obtain ⟨d,s⟩:=x;cases s <;> simp only [putAll] <;> rw [ih,put_defers']
     rw [this]
   rw [← hact] at hlast
   have:=wpAny_of_seq (md:=.any) (P:=P) (Q':=Q) (l.drop n) n listed a w' (fun j => by simp [List.getElem?_drop])
    (by rw [hlisted,List.length_drop];simpa using hseq) hlast
   rwa [List.length_drop] at this
  | succ f ih =>
   intro listed a w' vs inv hf;obtain ⟨i0,hi0,hi1,hi2⟩:=unl_some n (by rw [hf];omega);have hils:∀ i,i<n→i<listed.size:=fun i hi => by rw [inv.lsize];simp;omega
   have hready:i0 ∈ Region.ready .any l.toArray listed:=by
    obtain ⟨o,ho,hedge,_⟩:=hg i0 hi0;exact mem_ready.2 ⟨getD_in (hils i0 hi0) hi1,o,ho,fun e he hb => hi2 _ (hedge e he hb)⟩
   rw [show f+1+(l.length - n)=(f+(l.length - n))+1 by omega];refine ⟨fun h0 => (by rw [h0] at hready;cases hready),fun i hi => ?_⟩
   have hin:i<n:=by
    rcases Nat.lt_or_ge i n with h'|h'
    ·exact h'
    ·exfalso
     have hisz:i<l.toArray.size:=by
      obtain ⟨_,o,ho,_⟩:=mem_ready.1 hi;exact (Array.getElem?_eq_some_iff.1 ho).1
     simp only [sinkB,Bool.or_eq_true,decide_eq_true_eq,Bool.and_eq_true] at hS;rcases hS with hS|⟨hs,hc⟩
     ·omega
     ·exact tail_waits hs hc (by omega) ⟨inv.lsize,inv.closed,inv.tail⟩ _ i0 rfl hi0 (getD_in (hils i0 hi0) hi1) i h' hi
   refine inv.step (full:=full) (Q:=Q) hG hbd (fun k hk => (by obtain ⟨_,_,h1,_,_⟩:=hfull k hk;exact h1)) hfl (fun k hk => (by obtain ⟨_,_,_,h1,_⟩:=hfull k hk;exact h1))
    (fun o ho => (by
     obtain ⟨o',ho',_,_,h1⟩:=hfull i hin;have:o=o':=Option.some.inj ((by simpa using ho.symm:some o=l[i]?).trans ho');subst this;exact h1)) hi hin fun v a' w'' inv' => ih _ a' w'' _ inv' ?_
   have hun:=getD_both (mem_ready.1 hi).1;have:=unl_set hun (hils i hin) n hin;omega
 have:=main n (Array.replicate l.toArray.size false) a0 w.drew (fun _ => undef)
  ⟨rfl,rfl,Fut.refl _,fun _ _ => rfl,fun k _ hl => (by rw [getD_replicate_false] at hl;cases hl),fun k _ _ hl => (by rw [getD_replicate_false] at hl;cases hl),by simp,
   fun j oj _ hl => (by rw [getD_replicate_false] at hl;cases hl),fun t _ ht => getD_in (by simpa using ht) (getD_replicate_false _ _)⟩ (unl_none _ _)
 rwa [show n+(l.length - n)=l.toArray.size by simp;omega] at this
def Facts (known:List (Nat×(World→Prop))) (o:Oper) (w:World):Prop:=∀ kF ∈ known,dep o kF.1=true→kF.2 w
theorem Facts.get {known:List (Nat×(World→Prop))} {o:Oper} {w:World} (h:Facts known o w) (j:Nat) {k:Nat} {F:World→Prop} (hj:known[j]?=some (k,F)) (hd:dep o k=true):F w :=
 h (k,F) (List.mem_of_getElem? hj) hd
def AllFacts:List (Nat×(World→Prop))→World→Prop
 | [],_ => True
 | (_,F) :: r,w => F w∧AllFacts r w
def Run (P:Program) (ops:Array Oper) (w0:World) (K:Act→World→Prop):Nat→List Oper→List Sp→Act→List (Nat×(World→Prop))→Prop
 | _,[],_,a,known => ∀ w,Fut w0 w→AllFacts known w→K a w
 | i,o :: r,.det c :: sps,a,known => (∀ w,Fut w0 w→Facts known o w→givesG P ops o a (.det c) w)∧Run P ops w0 K (i+1) r sps (a.put o.dst c) known
 | i,o :: r,.rel S :: sps,a,known => (∀ v w w',Fut w w'→S v w→S v w')∧(∀ w,Fut w0 w→Facts known o w→givesG P ops o a (.rel S) w) ∧
     ∀ v,Run P ops w0 K (i+1) r sps (a.put o.dst v) (known++[(i,S v)])
 | _,_ :: _,[],_,_ => False
inductive Sh where
 | d
 | r (S:Value→World→Prop)
def Exs (K:List Sp→Prop):List Sh→Prop
 | [] => K []
 | .d :: sh => ∃ c,Exs (fun l => K (.det c :: l)) sh
 | .r S :: sh => Exs (fun l => K (.rel S :: l)) sh
theorem Exs_some {K:List Sp→Prop}:∀ (sh:List Sh),Exs K sh→∃ l,K l
 | [],h => ⟨[],h⟩
 | .d :: sh,⟨c,h⟩ => let ⟨l,h'⟩:=Exs_some sh h;⟨.det c :: l,h'⟩
 | .r S :: sh,h => let ⟨l,h'⟩:=Exs_some sh h;⟨.rel S :: l,h'⟩
theorem lexAct_intro {o:Oper} {w:World} {K:Act→Prop}:∀ (acc:List (Option Tmp×Sp)) (k:Nat) (a:Act),
    (∀ v:Nat→Value,(∀ j d S,acc[j]?=some (d,Sp.rel S)→dep o (k+j)=true→S (v (k+j)) w)→K (putAll v k acc a))→lexAct o w K k acc a
 | [],_,_,h => h (fun _ => undef) (fun j d S hj => by simp at hj)
 | (d,.det c) :: r,k,a,h => by
  simp only [lexAct];refine lexAct_intro r (k+1) _ fun v hv => ?_;refine h v fun j d' S hj hd => ?_;cases j with
  | zero => simp at hj
  | succ j =>
   have:=hv j d' S (by simpa using hj) (by rwa [show k+1+j=k+(j+1) by omega])
   rwa [show k+1+j=k+(j+1) by omega] at this
 | (d,.rel S0) :: r,k,a,h => by
  simp only [lexAct];intro v0 hv0;refine lexAct_intro r (k+1) _ fun v hv => ?_
  have:=h (fun i => if i=k then v0 else v i) fun j d' S hj hd => by
   cases j with
   | zero =>
    simp only [List.getElem?_cons_zero,Option.some.injEq,Prod.mk.injEq,Sp.rel.injEq] at hj;rw [← hj.2];simpa using hv0 (by simpa using hd)
   | succ j =>
    have h1:=hv j d' S (by simpa using hj) (by rwa [show k+1+j=k+(j+1) by omega]);rw [show k+1+j=k+(j+1) by omega] at h1;have:k+(j+1)≠k:=by omega
    simpa [this] using h1
  simp only [putAll,if_true] at this
  have hcongr:∀ (acc:List (Option Tmp×Sp)) (m:Nat) (b:Act),k<m→putAll (fun i => if i=k then v0 else v i) m acc b=putAll v m acc b:=by
   intro acc
   induction acc with
   | nil => intro m b _;rfl
   | cons x r ih =>
    intro m b hm;obtain ⟨d',s'⟩:=x;have hmk:m≠k:=by omega
    cases s' <;> simp only [putAll,hmk,if_false] <;> exact ih _ _ (by omega)
  rwa [hcongr _ _ _ (by omega)] at this
theorem lexFin_intro {w:World} {K:Act→Prop}:∀ (acc:List (Option Tmp×Sp)) (k:Nat) (a:Act),
    (∀ v:Nat→Value,(∀ j d S,acc[j]?=some (d,Sp.rel S)→S (v (k+j)) w)→K (putAll v k acc a))→lexFin w K acc a
 | [],_,_,h => h (fun _ => undef) (fun j d S hj => by simp at hj)
 | (d,.det c) :: r,k,a,h => by
  simp only [lexFin];refine lexFin_intro r (k+1) _ fun v hv => ?_;refine h v fun j d' S hj => ?_;cases j with
  | zero => simp at hj
  | succ j =>
   have:=hv j d' S (by simpa using hj)
   rwa [show k+1+j=k+(j+1) by omega] at this
 | (d,.rel S0) :: r,k,a,h => by
  simp only [lexFin];intro v0 hv0;refine lexFin_intro r (k+1) _ fun v hv => ?_
  have:=h (fun i => if i=k then v0 else v i) fun j d' S hj => by
   cases j with
   | zero =>
    simp only [List.getElem?_cons_zero,Option.some.injEq,Prod.mk.injEq,Sp.rel.injEq] at hj;rw [← hj.2];simpa using hv0
   | succ j =>
    have h1:=hv j d' S (by simpa using hj);rw [show k+1+j=k+(j+1) by omega] at h1;have:k+(j+1)≠k:=by omega
    simpa [this] using h1
  simp only [putAll,if_true] at this
  have hcongr:∀ (acc:List (Option Tmp×Sp)) (m:Nat) (b:Act),k<m→putAll (fun i => if i=k then v0 else v i) m acc b=putAll v m acc b:=by
   intro acc
   induction acc with
   | nil => intro m b _;rfl
   | cons x r ih =>
    intro m b hm;obtain ⟨d',s'⟩:=x;have hmk:m≠k:=by omega
    cases s' <;> simp only [putAll,hmk,if_false] <;> exact ih _ _ (by omega)
  rwa [hcongr _ _ _ (by omega)] at this
def knownOf (v:Nat→Value):Nat→List (Option Tmp×Sp)→List (Nat×(World→Prop))
 | _,[] => []
 | k,(_,.det _) :: r => knownOf v (k+1) r
 | k,(_,.rel S) :: r => (k,S (v k)) :: knownOf v (k+1) r
theorem knownOf_append (v:Nat→Value) (y:Option Tmp×Sp):∀ (acc:List (Option Tmp×Sp)) (k:Nat),knownOf v k (acc++[y])=knownOf v k acc++knownOf v (k+acc.length) [y]
 | [],k => by simp [knownOf]
 | (d,.det c) :: r,k => by
  simp only [List.cons_append,knownOf];rw [knownOf_append v y r (k+1),List.length_cons,show k+1+r.length=k+(r.length+1) by omega]
 | (d,.rel S) :: r,k => by
  simp only [List.cons_append,knownOf];rw [knownOf_append v y r (k+1),List.length_cons,show k+1+r.length=k+(r.length+1) by omega]
theorem putAll_append (v:Nat→Value) (y:Option Tmp×Sp):∀ (acc:List (Option Tmp×Sp)) (k:Nat) (a:Act),putAll v k (acc++[y]) a=putAll v (k+acc.length) [y] (putAll v k acc a)
 | [],k,a => by simp [putAll]
 | (d,.det c) :: r,k,a => by
  simp only [List.cons_append,putAll];rw [putAll_append v y r (k+1),List.length_cons,show k+1+r.length=k+(r.length+1) by omega]
 | (d,.rel S) :: r,k,a => by
  simp only [List.cons_append,putAll];rw [putAll_append v y r (k+1),List.length_cons,show k+1+r.length=k+(r.length+1) by omega]
theorem facts_of {v:Nat→Value} {o:Oper} {w:World}:∀ (acc:List (Option Tmp×Sp)) (k:Nat),(∀ j d S,acc[j]?=some (d,Sp.rel S)→dep o (k+j)=true→S (v (k+j)) w)→Facts (knownOf v k acc) o w
 | [],_,_ => fun kF h => by simp [knownOf] at h
 | (d,.det c) :: r,k,h => by
  simp only [knownOf]
  exact facts_of r (k+1) fun j d' S hj hd => by
   have:=h (j+1) d' S (by simpa using hj) (by rwa [show k+(j+1)=k+1+j by omega])
   rwa [show k+(j+1)=k+1+j by omega] at this
 | (d,.rel S0) :: r,k,h => by
  simp only [knownOf];intro kF hm hd;rcases List.mem_cons.1 hm with rfl|hm
  ·exact h 0 d S0 rfl (by simpa using hd)
  ·exact facts_of r (k+1) (fun j d' S hj hd => by
     have:=h (j+1) d' S (by simpa using hj) (by rwa [show k+(j+1)=k+1+j by omega])
     rwa [show k+(j+1)=k+1+j by omega] at this) kF hm hd
theorem allFacts_of {v:Nat→Value} {w:World}:∀ (acc:List (Option Tmp×Sp)) (k:Nat),(∀ j d S,acc[j]?=some (d,Sp.rel S)→S (v (k+j)) w)→AllFacts (knownOf v k acc) w
 | [],_,_ => trivial
 | (d,.det c) :: r,k,h => by
  simp only [knownOf]
  exact allFacts_of r (k+1) fun j d' S hj => by
   have:=h (j+1) d' S (by simpa using hj)
   rwa [show k+(j+1)=k+1+j by omega] at this
 | (d,.rel S0) :: r,k,h => by
  simp only [knownOf]
  exact ⟨h 0 d S0 rfl,allFacts_of r (k+1) fun j d' S hj => by
   have:=h (j+1) d' S (by simpa using hj)
   rwa [show k+(j+1)=k+1+j by omega] at this⟩
theorem Obl_of_run {P:Program} {ops:Array Oper} {w0:World} {a0:Act} {K:Act→World→Prop}:∀ (l:List Oper) (sps:List Sp) (acc:List (Option Tmp×Sp)),
    (∀ v:Nat→Value,Run P ops w0 K acc.length l sps (putAll v 0 acc a0) (knownOf v 0 acc))→Obl P ops w0 a0 K l acc
 | [],sps,acc,h => fun w hw => lexFin_intro acc 0 a0 fun v hv => by
  have:=h v;simp only [Run] at this;exact this w hw (allFacts_of acc 0 hv)
 | o :: r,[],acc,h => by have:=h (fun _ => undef);simp only [Run] at this
 | o :: r,.det c :: sps,acc,h => by
  refine ⟨.det c,trivial,fun w hw => lexAct_intro acc 0 a0 fun v hv => ?_,Obl_of_run r sps _ fun v => ?_⟩
  ·have:=h v;simp only [Run] at this;exact this.1 w hw (facts_of acc 0 hv)
  ·have:=(h v)
   simp only [Run] at this;have h2:=this.2;rw [putAll_append,knownOf_append,List.length_append];simpa [putAll,knownOf] using h2
 | o :: r,.rel S :: sps,acc,h => by
  refine ⟨.rel S,?_,fun w hw => lexAct_intro acc 0 a0 fun v hv => ?_,Obl_of_run r sps _ fun v => ?_⟩
  ·have:=h (fun _ => undef);simp only [Run] at this;exact this.1
  ·have:=h v;simp only [Run] at this;exact this.2.1 w hw (facts_of acc 0 hv)
  ·have:=h v;simp only [Run] at this;have h2:=this.2.2 (v acc.length);rw [putAll_append,knownOf_append,List.length_append];simpa [putAll,knownOf] using h2
theorem wp_graph {P:Program} {id:Nat} {Q:Exit→Act→World→Prop} {a0:Act} {w:World} {l:List Oper} (n:Nat) (shape:List Sh) (hm:P.follows .mixedOrders=true)
    (hB:(graphB l.toArray n && tailB l.toArray n)=true) (hsz:((List.range n).all fun k => match dstAt l.toArray k with|some d => decide (d<a0.tmps.size)|none => true)=true)
    (h:Exs (fun sps => Run P l.toArray w.drew (wpList P l.toArray Q (l.drop n)) 0 (l.take n) sps a0 []) shape):(Code.region id l.toArray true).wp P Q a0 w:=by
 obtain ⟨sps,hs⟩:=Exs_some shape h;exact wp_region_graph n hm hB hsz (Obl_of_run _ sps [] fun _ => hs)
section
variable {P:Program} {ops:Array Oper} {w0:World} {K:Act→World→Prop} {i:Nat} {o:Oper} {r:List Oper} {sps:List Sp} {a:Act} {known:List (Nat×(World→Prop))}
theorem wanted_none (hg:o.guard=none) (t:Array Value):Region.wanted o (yielded ops t)=true:=by simp [Region.wanted,hg]
theorem Run.valG {c:Value} (hg:Region.wanted o (yielded ops a.tmps)=true) (h:∀ w,Fut w0 w→Facts known o w→(execOp a.eval o).run P w = .ok (.value c) w) (k:Run P ops w0 K (i+1) r sps (a.put o.dst c) known) :
    Run P ops w0 K i (o :: r) (.det c :: sps) a known:=by
 refine ⟨fun w hw hf => ?_,k⟩;unfold givesG;rw [if_pos hg];unfold gives;rw [h w hw hf];exact ⟨Fut.refl w,rfl⟩
theorem Run.skip (hg:Region.wanted o (yielded ops a.tmps)=false) (k:Run P ops w0 K (i+1) r sps (a.put o.dst undef) known) :
    Run P ops w0 K i (o :: r) (.det undef :: sps) a known:=by
 refine ⟨fun w hw hf => ?_,k⟩;unfold givesG;rw [if_neg (by rw [hg];exact Bool.false_ne_true)];rfl
theorem Run.call {c:Value} {f:FuncId} {args:Array Value} (hg:Region.wanted o (yielded ops a.tmps)=true) (h:∀ w,Fut w0 w→(execOp a.eval o).run P w = .ok (.enter f args) w)
    (hc:∀ w,Fut w0 w→Facts known o w→Calls P f args w fun e w' => e = .returned c∧Fut w w') (k:Run P ops w0 K (i+1) r sps (a.put o.dst c) known) :
    Run P ops w0 K i (o :: r) (.det c :: sps) a known:=by
 refine ⟨fun w hw hf => ?_,k⟩;unfold givesG;rw [if_pos hg];unfold gives;rw [h w hw];exact (hc w hw hf).mono fun e w' ⟨he,hf'⟩ => ⟨c,he,hf',rfl⟩
theorem Run.callR {S:Value→World→Prop} {f:FuncId} {args:Array Value} (hg:Region.wanted o (yielded ops a.tmps)=true) (hm:∀ v w w',Fut w w'→S v w→S v w') (h:∀ w,Fut w0 w→(execOp a.eval o).run P w = .ok (.enter f args) w)
    (hc:∀ w,Fut w0 w→Facts known o w→Calls P f args w fun e w' => ∃ v,e = .returned v∧Fut w w'∧S v w') (k:∀ v,Run P ops w0 K (i+1) r sps (a.put o.dst v) (known++[(i,S v)])) :
    Run P ops w0 K i (o :: r) (.rel S :: sps) a known:=by
 refine ⟨hm,fun w hw hf => ?_,k⟩;unfold givesG;rw [if_pos hg];unfold gives;rw [h w hw];exact hc w hw hf
theorem Run.valR {S:Value→World→Prop} (hg:Region.wanted o (yielded ops a.tmps)=true) (hm:∀ v w w',Fut w w'→S v w→S v w')
    (h:∀ w,Fut w0 w→Facts known o w→∃ v w',(execOp a.eval o).run P w = .ok (.value v) w'∧Fut w w'∧S v w') (k:∀ v,Run P ops w0 K (i+1) r sps (a.put o.dst v) (known++[(i,S v)])) :
    Run P ops w0 K i (o :: r) (.rel S :: sps) a known:=by
 refine ⟨hm,fun w hw hf => ?_,k⟩;unfold givesG;rw [if_pos hg];unfold gives;obtain ⟨v,w',he,h1,h2⟩:=h w hw hf;rw [he];exact ⟨h1,h2⟩
theorem Run.done (h:∀ w,Fut w0 w→AllFacts known w→K a w):Run P ops w0 K i [] sps a known:=h
end
end Go.Proofs.YtobabnpllokkaaaGreatDoor
namespace Go.Proofs.YtobabnpllokkaaaGreatDoor
open Go.RowKit Go.ChangeShapes Go.WideShapes Go.ChangeAt Go.Deep
section
variable {H:Type} {enc:TypeId×Value→H} {P:Program}
theorem trodAll_stays (hl:laidOutB P=true) {W W':World} {sp':Nat→Bool}:∀ {ts:List TypeId} {vs:List Value} {ds:List (DataW H)} {ps:List MemPlace},
    (ts.all fun t => P.readableRec t && decide (t<P.types.size))=true→DataW.TrodAll enc P W 0 (fun _ => true) true ts vs ds ps→(∀ p ∈ ps,W.sameAt W' p)→(∀ p ∈ ps,sp' p.block=true) →
    DataW.TrodAll enc P W' 0 sp' true ts vs ds ps
 | [],[],[],ps,_,h,_,_ => h
 | [],_ :: _,_,_,_,h,_,_ => by simp [DataW.TrodAll] at h
 | [],[],_ :: _,_,_,h,_,_ => by simp [DataW.TrodAll] at h
 | t :: ts,[],_,_,_,h,_,_ => by simp [DataW.TrodAll] at h
 | t :: ts,v :: vs,[],_,_,h,_,_ => by simp [DataW.TrodAll] at h
 | t :: ts,v :: vs,d :: ds,ps,ht,h,hs,hsp => by
  obtain ⟨p,q,h1,h2,rfl⟩:=h;simp only [List.all_cons,Bool.and_eq_true,decide_eq_true_eq] at ht
  exact ⟨p,q,WideElems.Trod_stays hl ht.1.1 ht.1.2 h1 (fun x hx => hs x (List.mem_append_left _ hx)) (fun x hx => hsp x (List.mem_append_left _ hx)),
   trodAll_stays hl (by simpa using ht.2) h2 (fun x hx => hs x (List.mem_append_right _ hx)) (fun x hx => hsp x (List.mem_append_right _ hx)),rfl⟩
theorem law_post {f:Func} {s:ChangeSpec} {tb:TypeId} {W W':World} {args:Array Value} {ds gs:List (DataW H)} {before:List MemPlace} (hl:laidOutB P=true)
    (hW:DataW.Whole enc P f.params.toList s.vars false W args.toList ds gs before) (hv:s.vars=[])
    (ht:(f.params.toList.all fun t => P.readableRec t && decide (t<P.types.size))=true)
    (hr:f.resultTypes=#[tb]) (hb:P.underlying tb=some .bool)
    (hres:(s.fn H (ds++gs)).results=[.lit (.bool true)]) (hargs:(s.fn H (ds++gs)).args=ds) (hvars:(s.fn H (ds++gs)).vars=[])
    (hf:Fut W W'):s.post enc P f false true false false W args (.bool true) W':=by
 have hW0:=hW;obtain ⟨p,q,hA,hV,rfl,hfz,_⟩:=hW;rw [hv] at hV;obtain ⟨rfl,rfl⟩:=trodVars_none hV;have hlt:∀ x ∈ p++[],x.block<W.heap.size:=fun x hx => hW0.lt x hx;have hold:∀ x ∈ p++[],(fun b => decide (b<W.heap.size)) x.block=true:=fun x hx => by simpa using hlt x hx
 have hA':∀ sp:Nat→Bool,(∀ x ∈ p++[],sp x.block=true)→DataW.TrodAll enc P W' 0 sp true f.params.toList args.toList ds p:=fun sp hsp =>
  trodAll_stays hl ht hA (fun x hx => hf.same (hlt x (List.mem_append_left _ hx))) (fun x hx => hsp x (List.mem_append_left _ hx))
 have hres':∀ (b:Nat) (sp:Nat→Bool) (hd:Bool),DataW.TrodAll enc P W' b sp hd f.resultTypes.toList ((Value.bool true).resultList f.resultTypes.size) (s.fn H (ds++[])).results []:=fun b sp hd => by
  rw [hres,hr];exact trodAll_mk1 (shut_bool hb true)
 have hV':∀ sp:Nat→Bool,DataW.TrodVars enc P W' sp s.vars (s.fn H (ds++[])).vars []:=fun sp => by
  rw [hvars,hv];rfl
 have hA3:∀ sp:Nat→Bool,(∀ x ∈ p++[],sp x.block=true)→DataW.TrodAll enc P W' 0 sp true f.params.toList args.toList (s.fn H (ds++[])).args p:=by rw [hargs];exact hA'
 refine ⟨ds,[],p++[],[],p,[],hW0,hres' _ _ _,hA3 _ hold,hV' _,World.keptBut_mono (fun x hx => ⟨hx,Or.inr (List.mem_append.1 hx)⟩) (hf.frame (· ∈ p++[])),fun _ => ?_⟩;refine ⟨?_,_,_,([]++p)++[],⟨[]++p,[],trodAll_append (hA3 _ (fun _ _ => rfl)) (hres' _ _ _),hV' _,rfl,?_,fun h => by cases h⟩,?_⟩
 ·intro j t r hj hv';rw [hr] at hj hv'
  match j,hj,hv' with
  | 0,hj,hv' =>
   simp [Value.resultList] at hj hv';subst hj;subst hv';exact okWide_bool_mk hb true
 ·intro b off hp;have hin:MemPlace.cell b off ∈ p++[]:=by simpa using hp
  rw [Below.frozen hf (hlt _ hin)];exact hfz b off hin
 ·intro x hx _;simpa using hx
end
theorem weights_arg {H:Type} {P:Program} {ts:List TypeId} {ds:List (DataW H)} (h:(DataW.weightsEach P ts ds).all (·≤reachBytes)=true) (j:Nat) {t:TypeId} {d:DataW H} (ht:ts[j]?=some t) (hd:ds[j]?=some d):∀ n ∈ d.weights P t,n≤reachBytes :=
 fun n hn => by simpa using List.all_eq_true.1 h n (DataW.weights_mem_each ht hd n hn)
def SlRep {α:Type} (sz M:Nat) (R:World→List Value→α→Prop) (w:World) (v:Value) (xs:List α):Prop :=
 ∃ (A:Option Addr) (cap:Nat),v = .slice A xs.length cap∧xs.length≤cap∧cap≤M ∧
  ∀ i x,xs[i]?=some x→∃ b off cs,A=some ⟨b,off,none⟩∧cs.length=sz∧(∀ j c,cs[j]?=some c→w.cell? ⟨b,off+(i * sz+j),none⟩=some c)∧R w cs x
def Stays {α:Type} (R:World→List Value→α→Prop):Prop:=∀ w w' cs x,Fut w w'→R w cs x→R w' cs x
theorem SlRep.fut {α:Type} {sz M:Nat} {R:World→List Value→α→Prop} (hR:Stays R) {w w':World} {v:Value} {xs:List α} (h:SlRep sz M R w v xs) (hf:Fut w w'):SlRep sz M R w' v xs:=by
 obtain ⟨A,cap,hv,h1,h2,h3⟩:=h;refine ⟨A,cap,hv,h1,h2,fun i x hx => ?_⟩;obtain ⟨b,off,cs,hA,hl,hc,hr⟩:=h3 i x hx;exact ⟨b,off,cs,hA,hl,fun j c hj => hf.cell (hc j c hj),hR _ _ _ _ hf hr⟩
theorem SlRep.more {α:Type} {sz M M':Nat} {R:World→List Value→α→Prop} {w:World} {v:Value} {xs:List α} (h:SlRep sz M R w v xs) (hM:M≤M'):SlRep sz M' R w v xs:=by
 obtain ⟨A,cap,hv,h1,h2,h3⟩:=h;exact ⟨A,cap,hv,h1,by omega,h3⟩
theorem SlRep.imp {α:Type} {sz M:Nat} {R R':World→List Value→α→Prop} {w:World} {v:Value} {xs:List α} (h:SlRep sz M R w v xs) (hR:∀ cs x,R w cs x→R' w cs x):SlRep sz M R' w v xs:=by
 obtain ⟨A,cap,hv,h1,h2,h3⟩:=h;refine ⟨A,cap,hv,h1,h2,fun i x hx => ?_⟩;obtain ⟨b,off,cs,hA,hl,hc,hr⟩:=h3 i x hx;exact ⟨b,off,cs,hA,hl,hc,hR _ _ hr⟩
theorem SlRep.form {α:Type} {sz M:Nat} {R:World→List Value→α→Prop} {w:World} {v:Value} {xs:List α} (h:SlRep sz M R w v xs):∃ A cap,v = .slice A xs.length cap∧xs.length≤cap∧cap≤M:=by
 obtain ⟨A,cap,hv,h1,h2,_⟩:=h;exact ⟨A,cap,hv,h1,h2⟩
theorem SlRep.len {α:Type} {sz M:Nat} {R:World→List Value→α→Prop} {w:World} {v:Value} {xs:List α} (h:SlRep sz M R w v xs):xs.length≤M:=by
 obtain ⟨A,cap,hv,h1,h2,_⟩:=h;omega
def SlR {α:Type} (sz M:Nat) (R:World→List Value→α→Prop) (w:World) (cs:List Value) (xs:List α):Prop:=∃ v,cs=[v]∧SlRep sz M R w v xs
theorem SlRep.nil {α:Type} {sz M:Nat} {R:World→List Value→α→Prop} {w:World}:SlRep sz M R w (.slice none 0 0) ([]:List α) :=
 ⟨none,0,rfl,Nat.le_refl _,Nat.zero_le _,fun i x hx => by simp at hx⟩
def Reads {α:Type} (P:Program) (t:TypeId) (R:World→List Value→α→Prop):Prop :=
 ∀ (H:Type) (enc:TypeId×Value→H) (w:World) (base:Nat) (held:Bool) (fuel:Nat) (cs:List Value) (x:DataW H×List MemPlace),DataW.trod enc P w base (fun _ => true) held fuel t cs=some x →
  (∀ n ∈ x.1.weights P t,n≤reachBytes)→∃ d,R w cs d
theorem exists_list {α:Type} {p:Nat→α→Prop}:∀ n,(∀ i,i<n→∃ x,p i x)→∃ xs:List α,xs.length=n∧∀ i x,xs[i]?=some x→p i x
 | 0,_ => ⟨[],rfl,fun i x hx => by simp at hx⟩
 | n+1,h => by
  obtain ⟨xs,hl,hx⟩:=exists_list n fun i hi => h i (by omega);obtain ⟨y,hy⟩:=h n (by omega);refine ⟨xs++[y],by simp [hl],fun i x hi => ?_⟩;rcases Nat.lt_or_ge i n with h'|h'
  ·exact hx i x (by rwa [List.getElem?_append_left (by omega)] at hi)
  ·rw [List.getElem?_append_right (by omega),hl] at hi
   have:i=n:=by
    have:=(List.getElem?_eq_some_iff.1 hi).1;simp at this;omega
   subst this;simp at hi;rw [← hi];exact hy
theorem weightsAll_mem {H:Type} {P:Program} {e:TypeId}:∀ {ds:List (DataW H)} {d:DataW H},d ∈ ds→∀ n ∈ d.weights P e,n ∈ DataW.weightsAll P e ds
 | d0 :: r,d,hd,n,hn => by
  simp only [DataW.weightsAll,List.mem_append];rcases List.mem_cons.1 hd with rfl|h
  ·exact .inl hn
  ·exact .inr (weightsAll_mem h n hn)
theorem reads_slice {α:Type} {P:Program} {t e:TypeId} {sz M:Nat} {R:World→List Value→α→Prop} (ht:P.underlying t=some (.slice e)) (hc:P.cellsOf e=sz) (h0:0<sz) (hM:∀ c,c * P.bytesOf e≤reachBytes→c≤M) (hR:Reads P e R):Reads P t (SlR sz M R):=by
 intro H enc w base held fuel cs x h hn;rcases open_slice ht h with ⟨h1,_⟩|⟨a,len,cap,m,n,D,Pl,hcs,hb,hl,hm,hmm,hx,hi⟩
 ·exact ⟨[],_,h1,SlRep.nil⟩
 ·have hlm:len≤m:=by rw [hmm];simp;exact hl
  have hmc:m=cap:=by rw [hmm];simp
  have hw:x.1.weights P t=(len+(cap - len)) * P.bytesOf e :: (DataW.weightsAll P e ((List.range len).map D)++DataW.weightsAll P e ((List.range (m - len)).map fun j => D (len+j))):=by
   rw [hx];simp [DataW.weights,ht,hmc]
  have hcap:cap≤M:=hM cap (by
   have:=hn ((len+(cap - len)) * P.bytesOf e) (by rw [hw];simp)
   rwa [show len+(cap - len)=cap by omega] at this)
  obtain ⟨xs,hxl,hxs⟩:=exists_list (p:=fun i x => ∃ b off cs',some a=some ⟨b,off,none⟩∧cs'.length=sz∧(∀ j c,cs'[j]?=some c→w.cell? ⟨b,off+(i * sz+j),none⟩=some c)∧R w cs' x) len fun i hil => by
   obtain ⟨cs',h1,h2⟩:=hi i (by omega)
   obtain ⟨y,hy⟩:=hR H enc w base held n cs' _ h2 fun k hk => hn k (by
    rw [hw];refine List.mem_cons_of_mem _ (List.mem_append_left _ (weightsAll_mem (d:=D i) ?_ k hk));exact List.mem_map.2 ⟨i,List.mem_range.2 hil,rfl⟩)
   rw [hc] at h1;obtain ⟨_,hlen,hcell⟩:=World.cells?_some h1;obtain ⟨ab,ao,asp⟩:=a
   have hsp:asp=none∨∀ j,j<sz→False:=by
    cases asp with
    | none => exact .inl rfl
    | some q =>
     right
     intro j hj;have h0':=(hi 0 (by omega))
     obtain ⟨cs0,hz0,_⟩:=h0';rw [hc] at hz0;obtain ⟨_,hlen0,hcell0⟩:=World.cells?_some hz0;have:=hcell0 0 h0;rw [List.getElem?_eq_getElem (by omega)] at this;unfold World.cell? Addr.add at this;simp at this
     split at this <;> simp at this
   rcases hsp with rfl|hsp
   ·refine ⟨y,ab,ao,cs',rfl,hlen,fun j c hj => ?_,hy⟩;have hjl:j<sz:=by rw [← hlen];exact (List.getElem?_eq_some_iff.1 hj).1
    have:=hcell j hjl;rw [hj] at this;rw [← this];congr 1;unfold Addr.add
    by_cases h1':i * sz=0 <;> by_cases h2':j=0 <;> simp [h1',h2',Nat.add_assoc]
   ·exact (hsp 0 h0).elim
  exact ⟨xs,_,hcs,some a,cap,by rw [hxl],by omega,hcap,hxs⟩
theorem reads_string {P:Program} {t:TypeId} (ht:P.underlying t=some .string):Reads P t (fun _ cs (s:ByteArray) => cs=[.string s]∧s.size≤140737488351232):=by
 intro H enc w base held fuel cs x h hn;obtain ⟨s,h1,hx,h2⟩:=DataW.trod_string ht h;refine ⟨s,h1,?_⟩;have:=hn s.data.toList.length (by rw [hx];simp [DataW.weights]);simpa [reachBytes] using this
theorem reads_int {P:Program} {t:TypeId} {k:IntKind} (ht:P.underlying t=some (.int k)):Reads P t (fun _ cs (n:Int) => cs=[.int k n]∧(Lit.int k n).wf=true):=by
 intro H enc w base held fuel cs x h _;obtain ⟨s,h1,_,h2⟩:=DataW.trod_int ht h;exact ⟨s,h1,h2⟩
theorem reads_field {α:Type} {P:Program} {f:Field} {R:World→List Value→α→Prop} {H:Type} {enc:TypeId×Value→H} {w:World} {base:Nat} {held:Bool} {t:TypeId} {fs:Array Field} {fuel:Nat} {cs:List Value} {x:DataW H×List MemPlace}
    (hs:P.underlying t=some (.struct fs)) (h:DataW.trod enc P w base (fun _ => true) held fuel t cs=some x) (hn:∀ n ∈ x.1.weights P t,n≤reachBytes) (i:Nat) (hi:fs[i]?=some f) (hR:Reads P f.type R) :
    ∃ d,R w ((cs.drop f.offset).take (P.cellsOf f.type)) d:=by
 obtain ⟨xs,n,_,hx,_,hl,hf⟩:=DataW.trod_struct hs h;have h1:=hf i f hi;have hil:i<fs.size:=(Array.getElem?_eq_some_iff.1 hi).1;have hxi:xs[i]?=some (xs[i]'(by omega)):=List.getElem?_eq_getElem (by omega);rw [hxi] at h1;refine hR H enc w base held n _ _ h1 fun k hk => hn k ?_;rw [hx];simp only [DataW.weights,hs];refine DataW.weights_mem_each (j:=i) (t:=f.type) (d:=(xs[i]'(by omega)).1) ?_ (by simp [hxi]) k hk;have:fs.toList[i]?=some f:=by simpa using hi
 simp [this]
theorem reads_len {P:Program} {H:Type} {enc:TypeId×Value→H} {w:World} {base:Nat} {held:Bool} {t:TypeId} {fs:Array Field} {fuel:Nat} {cs:List Value} {x:DataW H×List MemPlace}
    (hs:P.underlying t=some (.struct fs)) (h:DataW.trod enc P w base (fun _ => true) held fuel t cs=some x):cs.length=P.cellsOf t:=by
 obtain ⟨_,_,_,_,hl,_,_⟩:=DataW.trod_struct hs h;exact hl
structure V where
 k:Int
 n:Int
 s:ByteArray
def V.ok (x:V):Prop:=(Lit.int .i8 x.k).wf=true∧(Lit.int .i64 x.n).wf=true∧x.s.size≤140737488351232
def V.cells (x:V):List Value:=[.int .i8 x.k,.int .i64 x.n,.string x.s]
def RV (_:World) (cs:List Value) (x:V):Prop:=cs=x.cells∧x.ok
theorem reads_V {P:Program} {t:TypeId} {f0 f1 f2:Field} (hs:P.underlying t=some (.struct #[f0,f1,f2])) (hC:P.cellsOf t=3) (h0:P.underlying f0.type=some (.int .i8)) (h1:P.underlying f1.type=some (.int .i64)) (h2:P.underlying f2.type=some .string)
    (o0:f0.offset=0) (o1:f1.offset=1) (o2:f2.offset=2) (c0:P.cellsOf f0.type=1) (c1:P.cellsOf f1.type=1) (c2:P.cellsOf f2.type=1):Reads P t RV:=by
 intro H enc w base held fuel cs x h hn;have hl:=(reads_len hs h).trans hC;obtain ⟨k,e0,w0⟩:=reads_field hs h hn 0 rfl (reads_int h0);obtain ⟨n,e1,w1⟩:=reads_field hs h hn 1 rfl (reads_int h1);obtain ⟨s,e2,w2⟩:=reads_field hs h hn 2 rfl (reads_string h2)
 match cs,hl with
 | [a,b,c],_ =>
  simp [o0,o1,o2,c0,c1,c2] at e0 e1 e2;exact ⟨⟨k,n,s⟩,by rw [e0,e1,e2];rfl,w0,w1,w2⟩
structure Fc where
 p:ByteArray
 a:List V
theorem reads_arg {α:Type} {P:Program} {t:TypeId} {R:World→List Value→α→Prop} (hR:Reads P t R) {H:Type} {enc:TypeId×Value→H} {w:World} {v:Value} {d:DataW H} {ps:List MemPlace} (h:DataW.Trod enc P w 0 (fun _ => true) true t v d ps) (hs:∀ n ∈ d.weights P t,n≤reachBytes) :
    ∃ x,R w v.cells.toList x:=by
 obtain ⟨n,hn⟩:=h;exact hR H enc w 0 true n _ _ hn hs
theorem arg_slice {α:Type} {P:Program} {sz M:Nat} {R:World→List Value→α→Prop} {w:World} {r:Reach} {b:Nat} {t e:TypeId} {v:Value} {xs:List α} (h:SlR sz M R w v.cells.toList xs) (ht:P.underlying t=some (.slice e)) (hv:Value.okWide P w r b t v):SlRep sz M R w v xs:=by
 obtain ⟨a,len,cap,rfl⟩:=okWide_slice ht hv;obtain ⟨u,h1,h2⟩:=h;simp [Value.cells] at h1;rw [h1];exact h2
def BlkF (w:World) (g:Nat) (t:TypeId) (N:Nat) (f:Nat→Value):Prop :=
 ∃ arr:Array Value,w.heap[g]?=some (.cells arr t (0,0))∧arr.size=N∧∀ j,j<N→arr[j]?=some (f j)
section
variable {w w':World} {g N:Nat} {t:TypeId} {f:Nat→Value}
theorem BlkF.lt (h:BlkF w g t N f):g<w.heap.size:=by
 obtain ⟨arr,h1,_⟩:=h;rcases Nat.lt_or_ge g w.heap.size with h'|h'
 ·exact h'
 ·rw [Array.getElem?_eq_none h'] at h1;cases h1
theorem BlkF.cell (h:BlkF w g t N f) {j:Nat} (hj:j<N):w.cell? ⟨g,j,none⟩=some (f j):=by
 obtain ⟨arr,h1,h2,h3⟩:=h;simp [World.cell?,h1,h3 j hj]
theorem BlkF.free (h:BlkF w g t N f) (j:Nat):w.frozen? ⟨g,j,none⟩=false:=by
 obtain ⟨arr,h1,_⟩:=h;simp [World.frozen?,h1]
theorem BlkF.fut (h:BlkF w g t N f) (hf:Fut w w'):BlkF w' g t N f:=by
 obtain ⟨arr,h1,h2⟩:=h;exact ⟨arr,hf.block h1,h2⟩
theorem BlkF.congr {f':Nat→Value} (h:BlkF w g t N f) (he:∀ j,j<N→f j=f' j):BlkF w g t N f':=by
 obtain ⟨arr,h1,h2,h3⟩:=h;exact ⟨arr,h1,h2,fun j hj => by rw [h3 j hj,he j hj]⟩
theorem BlkF.set (h:BlkF w g t N f) (i:Nat) (v:Value):BlkF (w.setCell ⟨g,i,none⟩ v) g t N (fun j => if j=i then v else f j):=by
 obtain ⟨arr,h1,h2,h3⟩:=h;refine ⟨arr.setIfInBounds i v,?_,by simp [h2],fun j hj => ?_⟩
 ·simp [World.setCell,Array.getElem?_modify,h1]
 ·by_cases hij:j=i
  ·subst hij;simp [h2,hj]
  ·rw [Array.getElem?_setIfInBounds_ne (Ne.symm hij),h3 j hj];simp [hij]
theorem BlkF.far (h:BlkF w g t N f) {p:Addr} (hp:g≠p.block) (v:Value):BlkF (w.setCell p v) g t N f:=by
 obtain ⟨arr,h1,h2⟩:=h;exact ⟨arr,(Below.heap_setCell w p v g hp).trans h1,h2⟩
theorem BlkF.new (w:World) (t:TypeId) (arr:Array Value):BlkF (w.alloc (.cells arr t)) w.heap.size t arr.size (fun j => arr.getD j undef) :=
 ⟨arr,heap_alloc_new w _,rfl,fun j hj => by simp [hj]⟩
end
theorem run_make_rowN {P:Program} (t e:TypeId) (i:TypeInfo) (z:Value) (ht:P.underlying t=some (.slice e)) (hi:P.info? e=some i) (hz:i.zero=some z)
    (kl kc:IntKind) (n c:Nat) (hnc:n≤c) (hbytes:i.bytes * c≤281474976710656) (h63:c≤9223372036854775807) (w:World) :
    (Instr.makeSlice t (.int kl (n:Int)) (.int kc (c:Int))).run P w = .ok (.slice (some ⟨w.heap.size,0,none⟩) n c) (w.alloc (.cells (madeCells z.cells (c * i.size)) e)):=by
 have hb:(i.bytes:Int) * (c:Int)≤281474976710656:=by
  have h:((i.bytes * c:Nat):Int)≤281474976710656:=by omega
  rwa [Int.natCast_mul] at h
 have hr:=run_make (P:=P) w t e i z ht hi hz kl kc n c (by omega) (by omega) hb (by omega);simp only [Int.toNat_natCast] at hr;exact hr
end Go.Proofs.YtobabnpllokkaaaGreatDoor
namespace Go.Proofs.YtobabnpllokkaaaGreatDoor
open Go.RowKit
def OwnL {α:Type} (sz B:Nat) (e:TypeId) (R:World→List Value→α→Prop) (w:World) (v:Value) (xs:List α):Prop :=
 ∃ css:List (List Value),css.length=xs.length∧(∀ (i:Nat) (cs:List Value) (x:α),css[i]?=some cs→xs[i]?=some x→cs.length=sz∧R w cs x)∧w.ownsRow B e sz v xs.length css.flatten
section
variable {α:Type} {sz B M:Nat} {e:TypeId} {R:World→List Value→α→Prop} {w w':World} {v u:Value} {xs ys:List α}
theorem OwnL.nil:OwnL sz B e R w (.slice none 0 0) ([]:List α):=⟨[],rfl,fun i cs x h => by simp at h,World.ownsRow_nil w B e sz⟩
theorem OwnL.fut (hR:Stays R) (h:OwnL sz B e R w v xs) (hf:Fut w w'):OwnL sz B e R w' v xs:=by
 obtain ⟨css,h1,h2,h3,h4⟩:=h;refine ⟨css,h1,fun i cs x hi hx => ⟨(h2 i cs x hi hx).1,hR _ _ _ _ hf (h2 i cs x hi hx).2⟩,h3,?_⟩;rcases h4 with h4|⟨g,cap,cur,a1,a2,a3,a4⟩
 ·exact .inl h4
 ·exact .inr ⟨g,cap,cur,a1,a2,hf.block a3,a4⟩
theorem flatten_at {css:List (List Value)} (hs:∀ (i:Nat) (cs:List Value),css[i]?=some cs→cs.length=sz):∀ (i j:Nat) (cs:List Value) (c:Value),css[i]?=some cs→cs[j]?=some c→css.flatten[i * sz+j]?=some c:=by
 induction css with
 | nil => intro i j cs c h;simp at h
 | cons a r ih =>
  intro i j cs c h hj;have ha:=hs 0 a rfl;cases i with
  | zero =>
   simp only [List.getElem?_cons_zero,Option.some.injEq] at h;subst h;rw [Nat.zero_mul,Nat.zero_add,List.flatten_cons,List.getElem?_append_left (List.getElem?_eq_some_iff.1 hj).1];exact hj
  | succ i =>
   rw [List.flatten_cons,List.getElem?_append_right (by rw [ha,Nat.add_mul];omega),ha,show (i+1) * sz+j - sz=i * sz+j by rw [Nat.add_mul];omega];exact ih (fun k cs hk => hs (k+1) cs (by simpa using hk)) i j cs c (by simpa using h) hj
theorem flatten_len {css:List (List Value)} (hs:∀ (i:Nat) (cs:List Value),css[i]?=some cs→cs.length=sz):css.flatten.length=css.length * sz:=by
 induction css with
 | nil => simp
 | cons a r ih =>
  rw [List.flatten_cons,List.length_append,hs 0 a rfl,ih fun k cs hk => hs (k+1) cs (by simpa using hk),List.length_cons,Nat.add_mul];omega
theorem OwnL.rep (h:OwnL sz B e R w v xs):SlRep sz maxLen R w v xs:=by
 obtain ⟨css,h1,h2,h3,h4⟩:=h;rcases h4 with ⟨rfl,h5⟩|⟨g,cap,cur,rfl,a2,a3,a4,a5,a6,a7⟩
 ·have:xs=[]:=List.length_eq_zero_iff.1 h5;subst this;exact ⟨none,0,rfl,Nat.le_refl _,Nat.zero_le _,fun i x hx => by simp at hx⟩
 ·refine ⟨_,cap,rfl,a4,a5,fun i x hx => ?_⟩;have hil:i<xs.length:=(List.getElem?_eq_some_iff.1 hx).1;have hc:css[i]?=some (css[i]'(by omega)):=List.getElem?_eq_getElem (by omega);obtain ⟨b1,b2⟩:=h2 i _ x hc hx;refine ⟨g,0,_,rfl,b1,fun j c hj => ?_,b2⟩
  have hs:∀ (i:Nat) (cs:List Value),css[i]?=some cs→cs.length=sz:=fun i cs hi => by
   have hl:i<css.length:=(List.getElem?_eq_some_iff.1 hi).1;exact (h2 i cs _ hi (List.getElem?_eq_getElem (by omega))).1
  have hf:=flatten_at hs i j _ c hc hj
  have hfl:i * sz+j<xs.length * sz:=by
   have:=(List.getElem?_eq_some_iff.1 hf).1
   rwa [flatten_len hs,h1] at this
  rw [← a7,List.getElem?_take,if_pos hfl,Array.getElem?_toList] at hf;rw [Nat.zero_add];simp [World.cell?,a3,hf]
theorem OwnL.block (h:OwnL sz B e R w v xs):∀ k,v.ownBlock=some k→B≤k∧k<w.heap.size:=by
 obtain ⟨css,h1,h2,h3⟩:=h;exact h3.lt
theorem Fut.grown {w0:World} (h:Fut w0 w) {row:Option Nat} (hg:w.grownBy w' row) (hrow:∀ k,row=some k→w0.heap.size≤k):Fut w0 w' :=
 ⟨hg.os.trans h.os,hg.tape.trans h.tape,hg.output.trans h.output,Nat.le_trans h.size hg.size,fun k hk => (hg.block k (Nat.lt_of_lt_of_le hk h.size) (fun e => absurd (hrow k e.symm) (by omega))).trans (Below.block h k hk)⟩
theorem run_append_none {P:Program} (t ty:TypeId) (i:TypeInfo) (ht:P.underlying t=some (.slice e)) (hi:P.info? e=some i) (A:Option Addr) (n cap c:Nat) (hn:n≤cap) (w:World) :
    (Builtin.append_ #[t,t] ty #[.slice A n cap,.slice none 0 c]).run P w = .ok (.slice A n cap) w:=by
 cases A <;> simp [Builtin.append_,run_underlying ht,sizeOf,typeInfo,hi,Builtin.lenOf,run_firstCells_none,hn,storeCells]
end
end Go.Proofs.YtobabnpllokkaaaGreatDoor
