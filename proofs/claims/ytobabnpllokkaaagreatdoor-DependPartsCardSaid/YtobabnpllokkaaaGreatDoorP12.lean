/- Parts. -/
import Derived.RangeFuncBox
import Derived.Test.YtobabnpllokkaaaGreatDoorP01
import Derived.Test.YtobabnpllokkaaaGreatDoorP11
import Derived.Test.YtobabnpllokkaaaGreatDoorP10
import Derived.Test.YtobabnpllokkaaaGreatDoorP00
set_option linter.unusedSimpArgs false
set_option linter.unusedVariables false
namespace Go.Proofs.YtobabnpllokkaaaGreatDoor.On
open Go.RowKit
def jB (jm:Nat) (js:Tmp) (ops:Array Oper) (n:Nat):Bool :=
 decide (jm<n) && (match ops[jm]? with|none => false|some o => decide (js ∈ o.looksAt ops)) && (List.range n).all fun k => dstAt ops k != some js || decide (k<jm)
theorem jB_spec {jm:Nat} {js:Tmp} {ops:Array Oper} {n:Nat} (h:jB jm js ops n=true):jm<n∧(∀ o,ops[jm]?=some o→js ∈ o.looksAt ops)∧∀ k,k<n→dstAt ops k=some js→k<jm:=by
 simp only [jB,Bool.and_eq_true,decide_eq_true_eq,List.all_eq_true,List.mem_range] at h;obtain ⟨⟨h1,h2⟩,h3⟩:=h;refine ⟨h1,fun o ho => ?_,fun k hk hd => ?_⟩
 ·rw [ho] at h2;simpa using h2
 ·have:=h3 k hk;simpa [hd] using this
class Mut where
 H:Nat→World→World→Prop
 A:Nat→World→World→Prop
 G:World→World→Prop
 D:Nat→Nat→Bool
 afut:∀ {i:Nat} {a b:World},Fut a b→A i a b
 hfut:∀ {i:Nat} {a b:World},Fut a b→H i a b
 htrans:∀ {i:Nat} {a b c:World},H i a b→H i b c→H i a c
 gfut:∀ {a b:World},Fut a b→G a b
 gtrans:∀ {a b c:World},G a b→G b c→G a c
 jm:Nat
 js:Tmp
 J:Value→World→Prop
 jkeep:∀ {x:Value} {a b:World},A jm a b→J x a→J x b
variable [Mut]
def G (w w':World):Prop:=Mut.G w w'
theorem G.refl (w:World):G w w:=Mut.gfut (Fut.refl w)
theorem G.trans {a b c:World} (h:G a b) (k:G b c):G a c:=Mut.gtrans h k
def Eff (i:Nat) (w w':World):Prop:=((∀ j,j≠i→Mut.D i j=false→Mut.H j w w')∧∀ j,j≠i→Mut.D j i=false→Mut.A j w w')∧G w w'
theorem Eff.of_fut {i:Nat} {w w':World} (h:Fut w w'):Eff i w w':=⟨⟨fun _ _ _ => Mut.hfut h,fun _ _ _ => Mut.afut h⟩,Mut.gfut h⟩
def EffJ (i:Nat) (x:Value) (w w':World):Prop:=Eff i w w'∧(i=Mut.jm→Mut.J x w')
theorem Eff.refl (i:Nat) (w:World):Eff i w w:=Eff.of_fut (Fut.refl w)
def NoJ (i:Nat):Prop:=i≠Mut.jm∨∀ x w,Mut.J x w
theorem Eff.j {i:Nat} {x:Value} {w w':World} (h:Eff i w w') (hj:NoJ i):EffJ i x w w':=⟨h,fun e => hj.elim (fun n => absurd e n) fun k => k x w'⟩
def Mono (i:Nat):Sp→Prop
 | .det _ => True
 | .rel S => ∀ v w w',Mut.A i w w'→S v w→S v w'
theorem holds_mono {i:Nat} {s:Sp} (h:Mono i s) {v:Value} {w w':World} (hf:Mut.A i w w') (hs:s.holds v w):s.holds v w':=by
 cases s with
 | det c => exact hs
 | rel S => exact h v w w' hf hs
def givesUpon (i:Nat) (x:Value) (P:Program) (s:Sp) (w:World):Result Next→Prop
 | .ok (.value v) w' => EffJ i x w w'∧s.holds v w'
 | .ok .skip w' => EffJ i x w w'∧s.holds undef w'
 | .ok (.enter f args) w' => Calls P f args w' (fun e w'' => ∃ v,e = .returned v∧EffJ i x w w''∧s.holds v w'')
 | _ => False
def gives (i:Nat) (P:Program) (o:Oper) (a:Act) (s:Sp) (w:World):Prop:=givesUpon i (a.tmps.getD Mut.js undef) P s w ((execOp a.eval o).run P w)
def givesG (i:Nat) (P:Program) (ops:Array Oper) (o:Oper) (a:Act) (s:Sp) (w:World):Prop :=
 if Region.wanted o (yielded ops a.tmps)=true then gives i P o a s w else EffJ i (a.tmps.getD Mut.js undef) w w∧s.holds undef w
def Obl (P:Program) (ops:Array Oper) (w0:World) (a0:Act) (K:Act→World→Prop):List Oper→List (Option Tmp×Sp)→Prop
 | [],acc => ∀ w,G w0 w→lexFin w (fun a => Mut.J (a.tmps.getD Mut.js undef) w→K a w) acc a0
 | o :: r,acc => ∃ s:Sp,Mono acc.length s∧(∀ w,Mut.H acc.length w0 w→lexAct o w (fun a => givesG acc.length P ops o a s w) 0 acc a0)∧Obl P ops w0 a0 K r (acc++[(o.dst,s)])
structure GInv (ops:Array Oper) (n:Nat) (sp:Nat→Sp) (a0:Act) (w0:World) (vs:Nat→Value) (listed:Array Bool) (a:Act) (w:World):Prop where
 size:a.tmps.size=a0.tmps.size
 defers:a.defers=a0.defers
 fut:G w0 w
 free:∀ t,(∀ k,k<n→listed.getD k false=true→dstAt ops k≠some t)→a.tmps[t]?=a0.tmps[t]?
 held:∀ k,k<n→listed.getD k false=true→(sp k).holds (vs k) w
 slot:∀ k d,k<n→listed.getD k false=true→dstAt ops k=some d→a.tmps[d]?=some (vs k)
 lsize:listed.size=ops.size
 closed:∀ j oj,ops[j]?=some oj→listed.getD j false=true→∀ e ∈ oj.after,Region.binds .any e=true→listed.getD e.on false=true
 tail:∀ t,n≤t→t<ops.size→listed.getD t true=false
 hist:∀ i,listed.getD i false=false→Mut.H i w0 w
 jj:listed.getD Mut.jm false=true→Mut.J (a.tmps.getD Mut.js undef) w
theorem Obl_split {P:Program} {ops:Array Oper} {w0:World} {a0:Act} {K:Act→World→Prop}:∀ (l:List Oper) (acc:List (Option Tmp×Sp)),Obl P ops w0 a0 K l acc →
    ∃ full:List (Option Tmp×Sp),full.length=acc.length+l.length∧full.take acc.length=acc ∧
     (∀ j o,l[j]?=some o→∃ s,full[acc.length+j]?=some (o.dst,s)∧Mono (acc.length+j) s∧∀ w,Mut.H (acc.length+j) w0 w→lexAct o w (fun a => givesG (acc.length+j) P ops o a s w) 0 (full.take (acc.length+j)) a0) ∧
     (∀ w,G w0 w→lexFin w (fun a => Mut.J (a.tmps.getD Mut.js undef) w→K a w) full a0)
 | [],acc,h => ⟨acc,by simp,by simp,fun j o hj => by simp at hj,h⟩
 | o :: r,acc,h => by
  obtain ⟨s,hm,h1,h2⟩:=h;obtain ⟨full,hl,ht,hall,hfin⟩:=Obl_split r _ h2;have hlen:(acc++[(o.dst,s)]).length=acc.length+1:=by simp
  rw [hlen] at hl ht hall
  have ht':full.take acc.length=acc:=by
   have:=congrArg (List.take acc.length) ht;simpa [List.take_take,Nat.min_eq_left (Nat.le_succ _)] using this
  refine ⟨full,by simp only [List.length_cons];omega,ht',fun j o' hj => ?_,hfin⟩;cases j with
  | zero =>
   simp only [List.getElem?_cons_zero,Option.some.injEq] at hj;subst hj;refine ⟨s,?_,hm,fun w hw => by rw [Nat.add_zero] at hw ⊢;rw [ht'];exact h1 w hw⟩;have:=congrArg (fun x => x[acc.length]?) ht;simpa [List.getElem?_take] using this
  | succ j =>
   have:=hall j o' (by simpa using hj)
   rwa [show acc.length+1+j=acc.length+(j+1) by omega] at this
section
variable {P:Program} {ops:Array Oper} {n:Nat} {sp:Nat→Sp} {a0:Act} {w0:World} {vs:Nat→Value} {listed:Array Bool} {a:Act} {w:World}
theorem GInv.step {full:List (Option Tmp×Sp)} {i:Nat} {Q:Exit→Act→World→Prop} {K:Act→World→Prop} (inv:GInv ops n sp a0 w0 vs listed a w) (hB:graphB ops n=true)
    (hbd:∀ k d,dstAt ops k=some d→k<n→d<a0.tmps.size) (hjB:jB Mut.jm Mut.js ops n=true∨∀ x w,Mut.J x w) (hDB:∀ i j o,ops[i]?=some o→Mut.D i j=true→dep o j=true)
    (hsp:∀ k,k<n→full[k]?=some (dstAt ops k,sp k)) (_hfl:full.length=n) (hmono:∀ k,k<n→Mono k (sp k))
    (hob:∀ o,ops[i]?=some o→∀ w,Mut.H i w0 w→lexAct o w (fun a => givesG i P ops o a (sp i) w) 0 (full.take i) a0)
    (hi:i ∈ Region.ready .any ops listed) (hin:i<n)
    (hK:∀ v a' w',GInv ops n sp a0 w0 (fun k => if k=i then v else vs k) (listed.setIfInBounds i true) a' w'→K a' w'):wpOp P ops Q i K a w:=by
 obtain ⟨hsel,hns,hg⟩:=graphB_spec hB;obtain ⟨hun,o,ho,hall⟩:=mem_ready.1 hi;obtain ⟨o',ho',hedge,hdist,hlook⟩:=hg i hin;obtain rfl:o=o':=Option.some.inj (ho.symm.trans ho');have hunf:listed.getD i false=false:=getD_both hun
 have hdep:∀ k,dep o k=true→listed.getD k false=true:=fun k hk => by
  obtain ⟨e,he,hb,rfl⟩:=dep_spec hk;exact hall e he hb
 have hlex:=lexAct_inst vs _ 0 a0 (hob o ho w (inv.hist i hunf)) fun j d S hj hd => by
  rw [Nat.zero_add] at hd ⊢;rw [List.getElem?_take] at hj
  split at hj
  ·rename_i hji;have h1:=hsp j (by omega);rw [hj] at h1;simp only [Option.some.injEq,Prod.mk.injEq] at h1;have:=inv.held j (by omega) (hdep j hd);rw [← h1.2] at this;exact this
  ·cases hj
 have hslot:∀ t ∈ o.looksAt ops,a.tmps[t]?=(putAll vs 0 (full.take i) a0).tmps[t]?:=fun t ht => by
  by_cases hex:∃ k,k<i∧dstAt ops k=some t
  ·obtain ⟨k,hki,hkd⟩:=hex;have hkn:k<n:=by omega
   have hkl:=hdep k ((hlook t ht k hkn hkd).1 hki);have h1:(full.take i)[k]?=some (some t,sp k):=by rw [List.getElem?_take,if_pos hki,hsp k hkn,hkd]
   rw [inv.slot k t hkn hkl hkd,putAll_at vs t _ 0 a0 k (sp k) (hbd k t hkd hkn) h1,Nat.zero_add]
   ·have h2:=inv.held k hkn hkl;cases hs:sp k with
    | det c => rw [hs] at h2;simp only [Sp.holds] at h2;rw [h2];rfl
    | rel S => rfl
   ·intro j d s' hj hd;rw [List.getElem?_take] at hj
    split at hj
    ·rename_i hji;rw [hsp j (by omega)] at hj;simp only [Option.some.injEq,Prod.mk.injEq] at hj;have hjd:dstAt ops j=some t:=hj.1.trans hd;rcases Nat.lt_trichotomy j k with h'|h'|h'
     ·obtain ⟨ok,hok,_,hd2,_⟩:=hg k hkn;exact absurd hjd (hd2 t (by simpa [dstAt,hok] using hkd) j h')
     ·exact h'
     ·obtain ⟨oj,hoj,_,hd2,_⟩:=hg j (by omega);exact absurd hkd (hd2 t (by simpa [dstAt,hoj] using hjd) k h')
    ·cases hj
  ·rw [putAll_other]
   ·refine inv.free t fun k hkn hkl hkd => ?_;rcases Nat.lt_trichotomy k i with h'|h'|h'
    ·exact hex ⟨k,h',hkd⟩
    ·subst h';rw [hunf] at hkl;cases hkl
    ·obtain ⟨ok,hok,hdk⟩:=(hlook t ht k hkn hkd).2 h';obtain ⟨e,he,hb,hei⟩:=dep_spec hdk;have:=inv.closed k ok hok hkl e he hb;rw [hei,hunf] at this;cases this
   ·intro d s hm hd;obtain ⟨j,hj⟩:=List.getElem?_of_mem hm;rw [List.getElem?_take] at hj
    split at hj
    ·rename_i hji;rw [hsp j (by omega)] at hj;simp only [Option.some.injEq,Prod.mk.injEq] at hj;exact hex ⟨j,hji,hj.1.trans hd⟩
    ·cases hj
 have hexec:execOp a.eval o=execOp (putAll vs 0 (full.take i) a0).eval o:=execOp_congr o (fun cs b => Region.noSelect_spec hsel i o cs b ho) fun x hx => by
  cases x with
  | tmp t =>
   have:=hslot t (List.mem_append_left _ (List.mem_filterMap.2 ⟨.tmp t,by simpa using hx,rfl⟩));simp only [Act.eval,Array.getD_eq_getD_getElem?,this]
  | _ => rfl
 have hwant:Region.wanted o (yielded ops a.tmps)=Region.wanted o (yielded ops (putAll vs 0 (full.take i) a0).tmps):=by
  unfold Region.wanted;cases hgd:o.guard with
  | none => rfl
  | some gw =>
   obtain ⟨g,want⟩:=gw
   have hy:yielded ops a.tmps g=yielded ops (putAll vs 0 (full.take i) a0).tmps g:=by
    unfold yielded;cases ht:(ops[g]?).bind (·.dst) with
    | none => rfl
    | some t =>
     have:=hslot t (by simp [Oper.looksAt,hgd,ht]);simp only [Option.bind_some,this]
   simp only [hy]
 have hdi:dstAt ops i=o.dst:=by simp [dstAt,ho]
 have hnW:∀ k,listed.getD k false=true→Mut.D k i=false:=fun k hl => by
  cases hd:Mut.D k i with
  | false => rfl
  | true =>
   have hks:k<ops.size:=by
    rw [← inv.lsize];rcases Nat.lt_or_ge k listed.size with h'|h'
    ·exact h'
    ·rw [Array.getD_eq_getD_getElem?,Array.getElem?_eq_none h'] at hl;cases hl
   obtain ⟨e,he,hb,hei⟩:=dep_spec (hDB k i _ (Array.getElem?_eq_getElem hks) hd);have:=inv.closed k _ (Array.getElem?_eq_getElem hks) hl e he hb;rw [hei,hunf] at this;cases this
 have hnew:∀ v w',EffJ i ((putAll vs 0 (full.take i) a0).tmps.getD Mut.js undef) w w'→(sp i).holds v w'→GInv ops n sp a0 w0 (fun k => if k=i then v else vs k) (listed.setIfInBounds i true) (a.put o.dst v) w':=fun v w' hf hv => by
  have hil:i<listed.size:=by rw [inv.lsize];omega
  have hset:∀ k,k≠i→(listed.setIfInBounds i true).getD k false=listed.getD k false:=fun k hk => getD_set_ne false (Ne.symm hk);refine ⟨by rw [put_size];exact inv.size,by rw [put_defers'];exact inv.defers,inv.fut.trans hf.1.2,fun t ht => ?_,fun k hk hl => ?_,fun k d hk hl hd => ?_,by simp [inv.lsize],fun j oj hj hl e he hb => ?_,fun t ht ht' => by rw [getD_set_ne true (by omega)];exact inv.tail t ht ht',fun j hj => ?_,fun hj => ?_⟩
  ·have hit:o.dst≠some t:=by rw [← hdi];exact ht i hin (by simp [hil])
   rw [put_other _ _ _ _ hit];refine inv.free t fun k hk hl => ht k hk ?_
   by_cases hki:k=i
   ·subst hki;simp [hil]
   ·rw [hset k hki];exact hl
  ·by_cases hki:k=i
   ·subst hki;simpa using hv
   ·simp only [hki,if_false];rw [hset k hki] at hl;exact holds_mono (hmono k hk) (hf.1.1.2 k hki (hnW k hl)) (inv.held k hk hl)
  ·by_cases hki:k=i
   ·subst hki;have hod:o.dst=some d:=by rw [← hdi];exact hd
    rw [hod];show _=some (if k=k then v else vs k);rw [if_pos rfl];exact put_same _ _ _ (by rw [inv.size];exact hbd k d hd hk)
   ·simp only [hki,if_false];rw [hset k hki] at hl;rw [put_other]
    ·exact inv.slot k d hk hl hd
    ·intro hod;have hid:dstAt ops i=some d:=hdi.trans hod;rcases Nat.lt_or_ge k i with h'|h'
     ·exact hdist d hod k h' hd
     ·obtain ⟨ok,hok,_,hd2,_⟩:=hg k hk;exact hd2 d (by simpa [dstAt,hok] using hd) i (by omega) hid
  ·by_cases hij:i=j
   ·subst hij;have:oj=o:=Option.some.inj (hj.symm.trans ho);subst this;exact getD_set_true (hall e he hb)
   ·rw [getD_set_ne false hij] at hl;exact getD_set_true (inv.closed j oj hj hl e he hb)
  ·have hji:j≠i:=fun e => by subst e;simp [hil] at hj
   rw [hset j hji] at hj
   exact Mut.htrans (inv.hist j hj) (hf.1.1.1 j hji (by
    cases hd:Mut.D i j with
    | false => rfl
    | true => have:=hdep j (hDB i j o ho hd);rw [hj] at this;cases this))
  ·rcases hjB with hjB|hjB
   ·obtain ⟨j1,j2,j3⟩:=jB_spec hjB
    by_cases hji:i=Mut.jm
    ·have hjs:o.dst≠some Mut.js:=fun e => by have:=j3 i hin (hdi.trans e);omega
     have hsl:=hslot Mut.js (j2 o (by rw [← hji];exact ho));have h7:=hf.2 hji;rw [Array.getD_eq_getD_getElem?] at h7 ⊢;rw [put_other _ _ _ _ hjs,hsl];exact h7
    ·rw [hset _ (Ne.symm hji)] at hj
     have hjs:o.dst≠some Mut.js:=fun e => by
      have hlt:=j3 i hin (hdi.trans e);obtain ⟨oj,hoj,_,_,hl5⟩:=hg Mut.jm j1;obtain ⟨e',he',hb',hei⟩:=dep_spec ((hl5 Mut.js (j2 oj hoj) i hin (hdi.trans e)).1 hlt);have:=inv.closed Mut.jm oj hoj hj e' he' hb';rw [hei,hunf] at this;cases this
     have h7:=inv.jj hj;rw [Array.getD_eq_getD_getElem?] at h7 ⊢;rw [put_other _ _ _ _ hjs];exact Mut.jkeep (hf.1.1.2 _ (Ne.symm hji) (hnW _ hj)) h7
   ·exact hjB _ _
 unfold wpOp;simp only [ho];unfold givesG at hlex;rw [← hwant] at hlex
 split
 ·rename_i hw;rw [if_pos hw] at hlex;refine .inl ?_;unfold gives at hlex;rw [← hexec] at hlex;unfold Oper.wp;generalize (execOp a.eval o).run P w=r at hlex ⊢;cases r with
  | ok nx w' =>
   cases nx <;> simp only [givesUpon] at hlex <;> simp only [Oper.upon]
   case value u => exact hK u _ _ (hnew u w' hlex.1 hlex.2)
   case skip => exact hK undef _ _ (hnew undef w' hlex.1 hlex.2)
   case enter f args =>
    refine Calls.mono hlex fun e w'' he => ?_;obtain ⟨v,rfl,hf,hv⟩:=he;exact hK v _ _ (hnew v w'' hf hv)
  | halt x w' => simp only [givesUpon] at hlex
 ·rename_i hw;rw [if_neg hw] at hlex;exact hK undef _ _ (hnew undef w hlex.1 hlex.2)
end
theorem wp_region_graph {P:Program} {id:Nat} {Q:Exit→Act→World→Prop} {a0:Act} {w:World} {l:List Oper} (n:Nat) (hm:P.follows .mixedOrders=true)
    (hB:(graphB l.toArray n && tailB l.toArray n)=true) (hsz:((List.range n).all fun k => match dstAt l.toArray k with|some d => decide (d<a0.tmps.size)|none => true)=true) (hjB:jB Mut.jm Mut.js l.toArray n=true∨∀ x w,Mut.J x w) (hDB:∀ i j o,l.toArray[i]?=some o→Mut.D i j=true→dep o j=true)
    (h:Obl P l.toArray w.drew a0 (wpList P l.toArray Q (l.drop n)) (l.take n) []):(Code.region id l.toArray true).wp P Q a0 w:=by
 simp only [Bool.and_eq_true,tailB] at hB;obtain ⟨hG,hS,hseq⟩:=hB;obtain ⟨hsel,hns,hg⟩:=graphB_spec hG;have hnl:n≤l.length:=by simpa using hns
 have hbd:∀ k d,dstAt l.toArray k=some d→k<n→d<a0.tmps.size:=fun k d hd hk => by
  have:=List.all_eq_true.1 hsz k (List.mem_range.2 hk);simpa [hd] using this
 obtain ⟨full,hfl,_,hob,hfin⟩:=Obl_split _ _ h;simp only [List.length_nil,Nat.zero_add] at hfl hob;have htl:(l.take n).length=n:=by simp;omega
 rw [htl] at hfl
 -- the specifications
 obtain ⟨sp,hsp⟩:∃ sp:Nat→Sp,∀ k,sp k=((full[k]?).map (·.2)).getD (.det undef):=⟨_,fun _ => rfl⟩
 have hfull:∀ k,k<n→∃ o,l[k]?=some o∧full[k]?=some (dstAt l.toArray k,sp k)∧Mono k (sp k) ∧
     ∀ w',Mut.H k w.drew w'→lexAct o w' (fun a => givesG k P l.toArray o a (sp k) w') 0 (full.take k) a0:=fun k hk => by
  have hlk:l[k]?=some (l[k]'(by omega)):=List.getElem?_eq_getElem (by omega);obtain ⟨s,hs,hmono,hlex⟩:=hob k _ (by rw [List.getElem?_take,if_pos hk];exact hlk);have hspk:sp k=s:=by rw [hsp,hs];rfl
  refine ⟨_,hlk,?_,by rw [hspk];exact hmono,by rw [hspk];exact hlex⟩;rw [hs,hspk];simp [dstAt,hlk]
 refine wp_region_any hm ?_
 have main:∀ (f:Nat) (listed:Array Bool) (a:Act) (w':World) (vs:Nat→Value),GInv l.toArray n sp a0 w.drew vs listed a w'→unl listed n=f →
     wpAny P .any l.toArray Q (f+(l.length - n)) listed a w':=by
  intro f
  induction f with
  | zero =>
   intro listed a w' vs inv hf;rw [Nat.zero_add]
   have hlisted:listed=headDone n l.length:=by
    refine Array.ext_getElem? fun t => ?_
    by_cases ht:t<l.length
    ·have hts:t<listed.size:=by rw [inv.lsize];simpa using ht
     have h2:(headDone n l.length)[t]?=some (decide (t<n)):=by simp [headDone,ht]
     rw [h2,Array.getElem?_eq_getElem hts]
     by_cases htn:t<n
     ·have:=unl_zero n hf t htn;simp [hts] at this;simp [htn,this]
     ·have:=inv.tail t (by omega) (by simpa using ht);simp [hts] at this;simp [htn,this]
    ·rw [Array.getElem?_eq_none (by rw [inv.lsize];simp;omega),Array.getElem?_eq_none (by simp [headDone];omega)]
   have hlast:=lexFin_inst (K:=fun a => Mut.J (a.tmps.getD Mut.js undef) w'→wpList P l.toArray Q (l.drop n) a w') vs full 0 a0 (hfin w' inv.fut) fun j d S hj => by
    rw [Nat.zero_add];have hjn:j<n:=by rw [← hfl];exact (List.getElem?_eq_some_iff.1 hj).1
    obtain ⟨_,_,h1,_,_⟩:=hfull j hjn;rw [hj] at h1;simp only [Option.some.injEq,Prod.mk.injEq] at h1;have:=inv.held j hjn (unl_zero n hf j hjn);rw [← h1.2] at this;exact this
   have hact:a=putAll vs 0 full a0:=by
    refine act_ext (fun t => ?_) ?_
    ·by_cases hex:∃ k,k<n∧dstAt l.toArray k=some t
     ·obtain ⟨k,hk,hkd⟩:=hex;obtain ⟨_,_,h1,_,_⟩:=hfull k hk;rw [hkd] at h1;rw [inv.slot k t hk (unl_zero n hf k hk) hkd,putAll_at vs t full 0 a0 k (sp k) (hbd k t hkd hk) h1,Nat.zero_add]
      ·have h2:=inv.held k hk (unl_zero n hf k hk);cases hs:sp k with
       | det c => rw [hs] at h2;simp only [Sp.holds] at h2;rw [h2];rfl
       | rel S => rfl
      ·intro j d s' hj hd;have hjn:j<n:=by rw [← hfl];exact (List.getElem?_eq_some_iff.1 hj).1
       obtain ⟨_,_,h3,_,_⟩:=hfull j hjn;rw [hj] at h3;simp only [Option.some.injEq,Prod.mk.injEq] at h3;have hjd:dstAt l.toArray j=some t:=h3.1.symm.trans hd;rcases Nat.lt_trichotomy j k with h'|h'|h'
       ·obtain ⟨ok,hok,_,hd2,_⟩:=hg k hk;exact absurd hjd (hd2 t (by simpa [dstAt,hok] using hkd) j h')
       ·exact h'
       ·obtain ⟨oj,hoj,_,hd2,_⟩:=hg j hjn;exact absurd hkd (hd2 t (by simpa [dstAt,hoj] using hjd) k h')
     ·rw [inv.free t fun k hk _ hd => hex ⟨k,hk,hd⟩,putAll_other];intro d s hmem hd;obtain ⟨j,hj⟩:=List.getElem?_of_mem hmem;have hjn:j<n:=by rw [← hfl];exact (List.getElem?_eq_some_iff.1 hj).1
      obtain ⟨_,_,h3,_,_⟩:=hfull j hjn;rw [hj] at h3;simp only [Option.some.injEq,Prod.mk.injEq] at h3;exact hex ⟨j,hjn,h3.1.symm.trans hd⟩
    ·rw [inv.defers]
     have:∀ (acc:List (Option Tmp×Sp)) (k:Nat) (b:Act),(putAll vs k acc b).defers=b.defers:=by
      intro acc
      induction acc with
      | nil => intro k b;rfl
      | cons x r ih =>
       intro k b;obtain ⟨d,s⟩:=x;cases s <;> simp only [putAll] <;> rw [ih,put_defers']
     rw [this]
   rw [← hact] at hlast;replace hlast:=hlast (hjB.elim (fun h => inv.jj (unl_zero n hf _ (jB_spec h).1)) fun h => h _ _)
   have:=wpAny_of_seq (md:=.any) (P:=P) (Q':=Q) (l.drop n) n listed a w' (fun j => by simp [List.getElem?_drop])
    (by rw [hlisted,List.length_drop];simpa using hseq) hlast
   rwa [List.length_drop] at this
  | succ f ih =>
   intro listed a w' vs inv hf;obtain ⟨i0,hi0,hi1,hi2⟩:=unl_some n (by rw [hf];omega);have hils:∀ i,i<n→i<listed.size:=fun i hi => by rw [inv.lsize];simp;omega
   have hready:i0 ∈ Region.ready .any l.toArray listed:=by
    obtain ⟨o,ho,hedge,_⟩:=hg i0 hi0;exact mem_ready.2 ⟨getD_in (hils i0 hi0) hi1,o,ho,fun e he hb => hi2 _ (hedge e he hb)⟩
   rw [show f+1+(l.length - n)=(f+(l.length - n))+1 by omega];refine ⟨fun h0 => (by rw [h0] at hready;cases hready),fun i hi => ?_⟩
   have hin:i<n:=by
    rcases Nat.lt_or_ge i n with h'|h'
    ·exact h'
    ·exfalso
     have hisz:i<l.toArray.size:=by
      obtain ⟨_,o,ho,_⟩:=mem_ready.1 hi;exact (Array.getElem?_eq_some_iff.1 ho).1
     simp only [sinkB,Bool.or_eq_true,decide_eq_true_eq,Bool.and_eq_true] at hS;rcases hS with hS|⟨hs,hc⟩
     ·omega
     ·exact tail_waits hs hc (by omega) ⟨inv.lsize,inv.closed,inv.tail⟩ _ i0 rfl hi0 (getD_in (hils i0 hi0) hi1) i h' hi
   refine inv.step (full:=full) (Q:=Q) hG hbd hjB hDB (fun k hk => (by obtain ⟨_,_,h1,_,_⟩:=hfull k hk;exact h1)) hfl (fun k hk => (by obtain ⟨_,_,_,h1,_⟩:=hfull k hk;exact h1))
    (fun o ho => (by
     obtain ⟨o',ho',_,_,h1⟩:=hfull i hin;have:o=o':=Option.some.inj ((by simpa using ho.symm:some o=l[i]?).trans ho');subst this;exact h1)) hi hin fun v a' w'' inv' => ih _ a' w'' _ inv' ?_
   have hun:=getD_both (mem_ready.1 hi).1;have:=unl_set hun (hils i hin) n hin;omega
 have:=main n (Array.replicate l.toArray.size false) a0 w.drew (fun _ => undef)
  ⟨rfl,rfl,G.refl _,fun _ _ => rfl,fun k _ hl => (by rw [getD_replicate_false] at hl;cases hl),fun k _ _ hl => (by rw [getD_replicate_false] at hl;cases hl),by simp,
   fun j oj _ hl => (by rw [getD_replicate_false] at hl;cases hl),fun t _ ht => getD_in (by simpa using ht) (getD_replicate_false _ _),fun i _ => Mut.hfut (Fut.refl _),fun hl => (by rw [getD_replicate_false] at hl;cases hl)⟩ (unl_none _ _)
 rwa [show n+(l.length - n)=l.toArray.size by simp;omega] at this
def Run (P:Program) (ops:Array Oper) (w0:World) (K:Act→World→Prop):Nat→List Oper→List Sp→Act→List (Nat×(World→Prop))→Prop
 | _,[],_,a,known => ∀ w,G w0 w→AllFacts known w→Mut.J (a.tmps.getD Mut.js undef) w→K a w
 | i,o :: r,.det c :: sps,a,known => (∀ w,Mut.H i w0 w→Facts known o w→givesG i P ops o a (.det c) w)∧Run P ops w0 K (i+1) r sps (a.put o.dst c) known
 | i,o :: r,.rel S :: sps,a,known => (∀ v w w',Mut.A i w w'→S v w→S v w')∧(∀ w,Mut.H i w0 w→Facts known o w→givesG i P ops o a (.rel S) w) ∧
     ∀ v,Run P ops w0 K (i+1) r sps (a.put o.dst v) (known++[(i,S v)])
 | _,_ :: _,[],_,_ => False
theorem Obl_of_run {P:Program} {ops:Array Oper} {w0:World} {a0:Act} {K:Act→World→Prop}:∀ (l:List Oper) (sps:List Sp) (acc:List (Option Tmp×Sp)),
    (∀ v:Nat→Value,Run P ops w0 K acc.length l sps (putAll v 0 acc a0) (knownOf v 0 acc))→Obl P ops w0 a0 K l acc
 | [],sps,acc,h => fun w hw => lexFin_intro acc 0 a0 fun v hv => by
  have:=h v;simp only [Run] at this;exact this w hw (allFacts_of acc 0 hv)
 | o :: r,[],acc,h => by have:=h (fun _ => undef);simp only [Run] at this
 | o :: r,.det c :: sps,acc,h => by
  refine ⟨.det c,trivial,fun w hw => lexAct_intro acc 0 a0 fun v hv => ?_,Obl_of_run r sps _ fun v => ?_⟩
  ·have:=h v;simp only [Run] at this;exact this.1 w hw (facts_of acc 0 hv)
  ·have:=(h v)
   simp only [Run] at this;have h2:=this.2;rw [putAll_append,knownOf_append,List.length_append];simpa [putAll,knownOf] using h2
 | o :: r,.rel S :: sps,acc,h => by
  refine ⟨.rel S,?_,fun w hw => lexAct_intro acc 0 a0 fun v hv => ?_,Obl_of_run r sps _ fun v => ?_⟩
  ·have:=h (fun _ => undef);simp only [Run] at this;exact this.1
  ·have:=h v;simp only [Run] at this;exact this.2.1 w hw (facts_of acc 0 hv)
  ·have:=h v;simp only [Run] at this;have h2:=this.2.2 (v acc.length);rw [putAll_append,knownOf_append,List.length_append];simpa [putAll,knownOf] using h2
theorem wp_graph {P:Program} {id:Nat} {Q:Exit→Act→World→Prop} {a0:Act} {w:World} {l:List Oper} (n:Nat) (shape:List Sh) (hm:P.follows .mixedOrders=true)
    (hB:(graphB l.toArray n && tailB l.toArray n)=true) (hsz:((List.range n).all fun k => match dstAt l.toArray k with|some d => decide (d<a0.tmps.size)|none => true)=true) (hjB:jB Mut.jm Mut.js l.toArray n=true∨∀ x w,Mut.J x w) (hDB:∀ i j o,l.toArray[i]?=some o→Mut.D i j=true→dep o j=true)
    (h:Exs (fun sps => Run P l.toArray w.drew (wpList P l.toArray Q (l.drop n)) 0 (l.take n) sps a0 []) shape):(Code.region id l.toArray true).wp P Q a0 w:=by
 obtain ⟨sps,hs⟩:=Exs_some shape h;exact wp_region_graph n hm hB hsz hjB hDB (Obl_of_run _ sps [] fun _ => hs)
section
variable {P:Program} {ops:Array Oper} {w0:World} {K:Act→World→Prop} {i:Nat} {o:Oper} {r:List Oper} {sps:List Sp} {a:Act} {known:List (Nat×(World→Prop))}
theorem Run.valG {c:Value} (hj:NoJ i) (hg:Region.wanted o (yielded ops a.tmps)=true) (h:∀ w,Mut.H i w0 w→Facts known o w→(execOp a.eval o).run P w = .ok (.value c) w) (k:Run P ops w0 K (i+1) r sps (a.put o.dst c) known) :
    Run P ops w0 K i (o :: r) (.det c :: sps) a known:=by
 refine ⟨fun w hw hf => ?_,k⟩;unfold givesG;rw [if_pos hg];unfold gives;rw [h w hw hf];exact ⟨(Eff.refl i w).j hj,rfl⟩
theorem Run.valR {S:Value→World→Prop} (hj:NoJ i) (hg:Region.wanted o (yielded ops a.tmps)=true) (hm:∀ v w w',Mut.A i w w'→S v w→S v w')
    (h:∀ w,Mut.H i w0 w→Facts known o w→∃ v w',(execOp a.eval o).run P w = .ok (.value v) w'∧Fut w w'∧S v w') (k:∀ v,Run P ops w0 K (i+1) r sps (a.put o.dst v) (known++[(i,S v)])) :
    Run P ops w0 K i (o :: r) (.rel S :: sps) a known:=by
 refine ⟨hm,fun w hw hf => ?_,k⟩;unfold givesG;rw [if_pos hg];unfold gives;obtain ⟨v,w',he,h1,h2⟩:=h w hw hf;rw [he];exact ⟨(Eff.of_fut h1).j hj,h2⟩
theorem Run.done (h:∀ w,G w0 w→AllFacts known w→Mut.J (a.tmps.getD Mut.js undef) w→K a w):Run P ops w0 K i [] sps a known:=h
end
end Go.Proofs.YtobabnpllokkaaaGreatDoor.On
namespace Go.Proofs.YtobabnpllokkaaaGreatDoor.On
abbrev Mut.one (m:Nat) (R:World→World→Prop) (hf:∀ {a b:World},Fut a b→R a b) (ht:∀ {a b c:World},R a b→R b c→R a c):Mut where
 H i:=if i=m then Fut else R
 A i:=if i=m then Fut else R
 G:=R
 D _ _:=false
 hfut:=fun {i} {a b} h => by
  show (if i=m then Fut else R) a b
  split
  ·exact h
  ·exact hf h
 afut:=fun {i} {a b} h => by
  show (if i=m then Fut else R) a b
  split
  ·exact h
  ·exact hf h
 htrans:=fun {i} {a b c} h k => by
  show (if i=m then Fut else R) a c;change (if i=m then Fut else R) a b at h;change (if i=m then Fut else R) b c at k
  split at h
  ·rename_i e;rw [if_pos e] at k ⊢;exact Fut.trans h k
  ·rename_i e;rw [if_neg e] at k ⊢;exact ht h k
 gfut:=hf
 gtrans:=ht
 jm:=0
 js:=0
 J _ _:=True
 jkeep _ _:=trivial
theorem Eff.one {m:Nat} {R:World→World→Prop} {hf:∀ {a b:World},Fut a b→R a b} {ht:∀ {a b c:World},R a b→R b c→R a c} {w w':World} (h:R w w'):@Eff (Mut.one m R hf ht) m w w' :=
 ⟨⟨fun j hj _ => (by show (if j=m then Fut else R) w w';rw [if_neg hj];exact h),fun j hj _ => (by show (if j=m then Fut else R) w w';rw [if_neg hj];exact h)⟩,h⟩
section
variable {m:Nat} {R:World→World→Prop} {hf:∀ {a b:World},Fut a b→R a b} {ht:∀ {a b c:World},R a b→R b c→R a c} {s:Tmp} {K:Value→World→Prop} {hK:∀ {x:Value} {a b:World},Fut a b→K x a→K x b} {w w':World}
end
section
variable {m n:Nat} {B C R:World→World→Prop} {hB:∀ {a b:World},Fut a b→B a b} {hC:∀ {a b:World},Fut a b→C a b} {hf:∀ {a b:World},Fut a b→R a b}
    {tB:∀ {a b c:World},B a b→B b c→B a c} {ht:∀ {a b c:World},R a b→R b c→R a c} {w w':World}
end
theorem one_dep {m:Nat} {R:World→World→Prop} {hf:∀ {a b:World},Fut a b→R a b} {ht:∀ {a b c:World},R a b→R b c→R a c} {ops:Array Oper}:∀ i j o,ops[i]?=some o→@Mut.D (Mut.one m R hf ht) i j=true→dep o j=true:=fun i j o ho hd => by
 have hd':false=true:=hd;cases hd'
end Go.Proofs.YtobabnpllokkaaaGreatDoor.On
namespace Go.Proofs.YtobabnpllokkaaaGreatDoor.On
open Go.RowKit
abbrev Mut.swap (p q m n:Nat) (B C R:World→World→Prop) (hB:∀ {a b:World},Fut a b→B a b) (hC:∀ {a b:World},Fut a b→C a b) (hf:∀ {a b:World},Fut a b→R a b)
    (tB:∀ {a b c:World},B a b→B b c→B a c) (ht:∀ {a b c:World},R a b→R b c→R a c):Mut where
 H i:=if i=p∨i=q∨i=m then Fut else if i=n then B else R
 A i:=if i=m then C else if i=n then Fut else R
 G:=R
 D i j:=(i == n && j == m) || ((i == m || i == n) && (j == p || j == q))
 hfut:=fun {i} {a b} h => by
  show (if i=p∨i=q∨i=m then Fut else if i=n then B else R) a b
  split
  ·exact h
  ·split
   ·exact hB h
   ·exact hf h
 afut:=fun {i} {a b} h => by
  show (if i=m then C else if i=n then Fut else R) a b
  split
  ·exact hC h
  ·split
   ·exact h
   ·exact hf h
 htrans:=fun {i} {a b c} h k => by
  show (if i=p∨i=q∨i=m then Fut else if i=n then B else R) a c;change (if i=p∨i=q∨i=m then Fut else if i=n then B else R) a b at h;change (if i=p∨i=q∨i=m then Fut else if i=n then B else R) b c at k
  by_cases e:i=p∨i=q∨i=m
  ·rw [if_pos e] at h k ⊢;exact Fut.trans h k
  ·rw [if_neg e] at h k ⊢
   by_cases e2:i=n
   ·rw [if_pos e2] at h k ⊢;exact tB h k
   ·rw [if_neg e2] at h k ⊢;exact ht h k
 gfut:=hf
 gtrans:=ht
 jm:=0
 js:=0
 J _ _:=True
 jkeep _ _:=trivial
section
variable {p q m n:Nat} {B C R:World→World→Prop} {hB:∀ {a b:World},Fut a b→B a b} {hC:∀ {a b:World},Fut a b→C a b} {hf:∀ {a b:World},Fut a b→R a b}
    {tB:∀ {a b c:World},B a b→B b c→B a c} {ht:∀ {a b c:World},R a b→R b c→R a c} {w w':World}
theorem Eff.swap1 (h1:B w w') (h2:R w w'):@Eff (Mut.swap p q m n B C R hB hC hf tB ht) m w w' :=
 ⟨⟨fun j hj hd => (by
     show (if j=p∨j=q∨j=m then Fut else if j=n then B else R) w w';have hd':((m == n && j == m) || ((m == m || m == n) && (j == p || j == q)))=false:=hd
     have hn:¬ (j=p∨j=q∨j=m):=fun e => by
      rcases e with e|e|e
      ·simp [e] at hd'
      ·simp [e] at hd'
      ·exact hj e
     rw [if_neg hn]
     split
     ·exact h1
     ·exact h2),fun j hj hd => (by
     show (if j=m then C else if j=n then Fut else R) w w'
     have hjn:j≠n:=fun e => by
      have hd':((j == n && m == m) || ((j == m || j == n) && (m == p || m == q)))=false:=hd;simp [e] at hd'
     rw [if_neg hj,if_neg hjn];exact h2)⟩,h2⟩
theorem Eff.swap2 (h1:C w w') (h2:R w w'):@Eff (Mut.swap p q m n B C R hB hC hf tB ht) n w w' :=
 ⟨⟨fun j hj hd => (by
     show (if j=p∨j=q∨j=m then Fut else if j=n then B else R) w w';have hd':((n == n && j == m) || ((n == m || n == n) && (j == p || j == q)))=false:=hd
     have hn:¬ (j=p∨j=q∨j=m):=fun e => by
      rcases e with e|e|e <;> simp [e] at hd'
     rw [if_neg hn,if_neg hj];exact h2),fun j hj _ => (by
     show (if j=m then C else if j=n then Fut else R) w w';rw [if_neg hj]
     split
     ·exact h1
     ·exact h2)⟩,h2⟩
theorem swap_dep {ops:Array Oper} (h:(match ops[n]? with|some o => dep o m && dep o p && dep o q|none => false)=true) (h':(match ops[m]? with|some o => dep o p && dep o q|none => false)=true):∀ i j o,ops[i]?=some o→@Mut.D (Mut.swap p q m n B C R hB hC hf tB ht) i j=true→dep o j=true:=fun i j o ho hd => by
 have hd':((i == n && j == m) || ((i == m || i == n) && (j == p || j == q)))=true:=hd;simp only [Bool.or_eq_true,Bool.and_eq_true,beq_iff_eq] at hd';rcases hd' with ⟨rfl,rfl⟩|⟨rfl|rfl,rfl|rfl⟩
 ·rw [ho] at h;simp only [Bool.and_eq_true] at h;exact h.1.1
 ·rw [ho] at h';simp only [Bool.and_eq_true] at h';exact h'.1
 ·rw [ho] at h';simp only [Bool.and_eq_true] at h';exact h'.2
 ·rw [ho] at h;simp only [Bool.and_eq_true] at h;exact h.1.2
 ·rw [ho] at h;simp only [Bool.and_eq_true] at h;exact h.2
end
section
variable [Mut] {P:Program} {ops:Array Oper} {w0:World} {K:Act→World→Prop} {i:Nat} {o:Oper} {r:List Oper} {sps:List Sp} {a:Act} {known:List (Nat×(World→Prop))}
theorem Run.mutSR {S:Value→World→Prop} (hj:NoJ i) (hg:Region.wanted o (yielded ops a.tmps)=true) (hm:∀ v w w',Mut.A i w w'→S v w→S v w')
    (h:∀ w,Mut.H i w0 w→Facts known o w→∃ w',(execOp a.eval o).run P w = .ok .skip w'∧Eff i w w'∧S undef w') (k:∀ v,Run P ops w0 K (i+1) r sps (a.put o.dst v) (known++[(i,S v)])) :
    Run P ops w0 K i (o :: r) (.rel S :: sps) a known:=by
 refine ⟨hm,fun w hw hf => ?_,k⟩;unfold givesG;rw [if_pos hg];unfold gives;obtain ⟨w',he,h1,h2⟩:=h w hw hf;rw [he];exact ⟨h1.j hj,h2⟩
end
end Go.Proofs.YtobabnpllokkaaaGreatDoor.On
namespace Go.Proofs.YtobabnpllokkaaaGreatDoor
open Go.RowKit Go.WideMaps Go.Maps
theorem infoRuT:(Tryz.prog.info? 82).map (·.size)=some 3:=by kernel_rfl
theorem SlU.len {g:Nat} {w:World} {v:Value} {ys:List Ru} (h:SlU g w v ys):ys.length≤100000000:=h.2.1
theorem SlU.lt {g:Nat} {w:World} {v:Value} {ys:List Ru} (h:SlU g w v ys):g<w.heap.size:=by
 obtain ⟨_,_,arr,h3,_⟩:=h;exact (Array.getElem?_eq_some_iff.1 h3).1
theorem Only.back {S:Nat→Prop} {w a b:World} (h1:Only S w a) (h2:Only S w b) (hs:a.heap.size=w.heap.size):Only S a b :=
 ⟨h2.os.trans h1.os.symm,h2.tape.trans h1.tape.symm,h2.output.trans h1.output.symm,by rw [hs];exact h2.size,fun k hk hn => by
  rw [hs] at hk;rw [h2.block k hk hn,h1.block k hk hn]⟩
theorem SlU.cong {g:Nat} {w w':World} {v:Value} {xs:List Ru} (h:SlU g w v xs) (hg:w'.heap[g]?=w.heap[g]?) (hO:Only (fun k => k=g) w w'):SlU g w' v xs:=by
 obtain ⟨rfl,h2,arr,h3,h4,h5⟩:=h
 exact ⟨rfl,h2,arr,hg.trans h3,h4,fun i x hx => by
  obtain ⟨cs,a,b,c⟩:=h5 i x hx;exact ⟨cs,a,b,c.only hO⟩⟩
theorem setCells_same {w:World} {g off:Nat} {cs:List Value} {arr arr1:Array Value} {t:TypeId} (h:w.heap[g]?=some (.cells arr t (0,0))) (hs:∀ j,arr1[j]?=if off≤j∧j<off+cs.length∧j<arr.size then cs[j - off]? else arr[j]?) :
    ∃ w',w.setCells g off cs=w'∧w'.heap[g]?=some (.cells arr1 t (0,0))∧Only (fun k => k=g) w w'∧g<w'.heap.size:=by
 obtain ⟨arr',e1,e2,e3⟩:=setCells_put cs off w arr h;have e:arr'=arr1:=Array.ext_getElem? fun j => by rw [e3,hs]
 have hl:=(Array.getElem?_eq_some_iff.1 h).1;refine ⟨_,rfl,?_,?_,?_⟩
 ·rw [e1,e];exact World.putObj_heap_same hl
 ·rw [e1];exact Only.put _ _ rfl
 ·rw [e1];simpa [World.putObj] using hl
theorem exec_storeM {P:Program} {e:TypeId} {cs:List Value} {op:Oper} {a:Act} {w:World} {b off:Nat} {t:TypeId} {arr:Array Value} (x z:Operand) (ho:op.op = .store e x z) (hx:a.eval x = .pointer (some ⟨b,off,none⟩)) (hz:a.eval z = .agg cs.toArray) (hb:w.heap[b]?=some (.cells arr t (0,0))) (hs:off+cs.length≤arr.size) (hi:(P.info? e).map (·.size)=some cs.length) (hone:∀ v ∈ cs,v.oneCell'=true) :
    (execOp a.eval op).run P w = .ok .skip (w.setCells b off cs):=by
 have h1:=run_storeVar_mid (P:=P) w b off e cs.toArray (fun j hj => by
  have hj':off+j<arr.size:=by simp at hj;omega
  refine ⟨?_,?_⟩
  ·simp [World.cell?,hb,hj']
  ·simp [World.frozen?,hb]) (by rw [hi];simp) (all_oneCell_toArray hone)
 unfold execOp;simp only [ho,hx,hz,Instr.storeAt,Instr.sureAddr,Sem.run_bind,Sem.run_pure,Result.andThen_ok,h1]
set_option maxHeartbeats 1600000 in
set_option maxRecDepth 100000 in
theorem turned_ru (g:Nat) (v:Value) (xs:List Ru) (w:World) (h:SlU g w v xs) :
    Calls Tryz.prog 13 #[v] w fun e w' => (∃ u,e = .returned u)∧SlU g w' v xs.reverse∧Only (fun b => b=g) w w':=by
 have H:=Hh h;have hxl:xs.length≤9223372036854775807:=by have:=h.len;omega
 have hgl:=h.lt;obtain rfl:=h.1;clear h;go_enter Tryz.func13,Tryz.ntmps13;go_wp2_with fail;go_loopw [2,3] (fun i _ wr => ∃ k:Nat,k≤xs.length / 2∧i = .int .i64 k∧Hid (∃ ys,TurnK xs ys k∧SlU g wr (.slice (some ⟨g,0,none⟩) xs.length (xs.length+1)) ys)∧Hid (Only (fun b => b=g) w wr)) (fun i _ _ => xs.length / 2 - (intOf i).toNat)
 case atStart => exact ⟨0,Nat.zero_le _,rfl,Hh ⟨xs,TurnK.start xs,H.out⟩,Hh (Only.refl _)⟩
 case round =>
  obtain ⟨k,hk,rfl,hY,hO⟩:=hrel;obtain ⟨ys,hT,hU⟩:=hY.out;have hquo:(xs.length:Int).tdiv 2=((xs.length / 2:Nat):Int):=by rw [Int.tdiv_eq_ediv_of_nonneg (by omega)];omega
  obtain ⟨m,hm⟩:∃ m,m=xs.length / 2:=⟨_,rfl⟩
  rw [← hm] at hk hquo;have hwm:wrap64 (m:Int)=(m:Int):=by unfold wrap64;omega
  by_cases hlt:k<m
  ·have hltI:(k:Int)<(m:Int):=by omega
   obtain ⟨q,hq⟩:∃ q,q=xs.length - 1 - k:=⟨_,rfl⟩
   have hqI:(xs.length:Int) - 1 - (k:Int)=(q:Int):=by omega
   have hkl:k<ys.length:=by rw [hT.1];omega
   have hql:q<ys.length:=by rw [hT.1];omega
   have e0:(0:Int)≤k∧(k:Int)<xs.length:=by omega
   have e1:(0:Int)≤q∧(q:Int)<xs.length:=by omega
   have hs:=hT.step (by omega) (List.getElem?_eq_getElem hkl) (by rw [← hq];exact List.getElem?_eq_getElem hql);rw [← hq] at hs;obtain ⟨ci,ck,l1,l2,c1,c2,_,_,hU2,hO2,o1,o2⟩:=hU.swap hkl hql;have hU':=hU;obtain ⟨hx1,hx2,arr,hga,hsa,hx3⟩:=hU';clear hx1 hx2 hx3;have hgw:=(Array.getElem?_eq_some_iff.1 hga).1;obtain ⟨arr1,e1',z1,s1⟩:=setCells_put ck (k * 3) wr arr hga;have hg1:(wr.putObj g (.cells arr1 82 (0,0))).heap[g]?=some (.cells arr1 82 (0,0)):=World.putObj_heap_same hgw;obtain ⟨arr2,e2',z2,s2⟩:=setCells_put ci (q * 3) _ arr1 hg1;rw [e1',e2'] at hU2 hO2;obtain ⟨WF,hWF⟩:∃ W,(wr.putObj g (.cells arr1 82 (0,0))).putObj g (.cells arr2 82 (0,0))=W:=⟨_,rfl⟩
   have hFs:WF.heap.size=wr.heap.size:=by rw [← hWF];simp [World.putObj]
   have hFg:WF.heap[g]?=some (.cells arr2 82 (0,0)):=by rw [← hWF];exact World.putObj_heap_same (by simpa [World.putObj] using hgw)
   rw [hWF] at hU2 hO2
   have s3:∀ j,arr2[j]?=if q * 3≤j∧j<q * 3+ci.length∧j<arr2.size then ci[j - q * 3]? else arr2[j]?:=fun j => by
    by_cases hj:q * 3≤j∧j<q * 3+ci.length∧j<arr2.size
    ·rw [if_pos hj,s2,if_pos (by rw [← z2];exact hj)]
    ·rw [if_neg hj]
   have HX:=Hh (show ∀ W:World,Only (fun b => b=g) wr W→W.heap[g]?=some (.cells arr2 82 (0,0))→SlU g W (.slice (some ⟨g,0,none⟩) xs.length (xs.length+1)) ((ys.set k ys[q]).set q ys[k]) from fun W hW hg => hU2.cong (hg.trans hFg.symm) (Only.back hO2 hW hFs));have n1:k * 3+ck.length≤arr.size:=by rw [l2];have:=hT.1;omega
   have n2:q * 3+ci.length≤arr1.size:=by rw [l1,z1];have:=hT.1;omega
   have n3:q * 3+ci.length≤arr2.size:=by rw [z2];exact n2
   have SA:=Hh (show ∀ W:World,Fut wr W→W.heap[g]?=some (.cells arr 82 (0,0))∧∃ w',W.setCells g (k * 3) ck=w'∧w'.heap[g]?=some (.cells arr1 82 (0,0))∧Only (fun k => k=g) W w'∧g<w'.heap.size from fun W hW => ⟨hW.block hga,setCells_same (hW.block hga) s1⟩)
   have SB:=Hh (show ∀ W:World,(W.heap[g]?=some (.cells arr1 82 (0,0))∨W.heap[g]?=some (.cells arr2 82 (0,0)))→∃ A:Array Value,W.heap[g]?=some (.cells A 82 (0,0))∧q * 3+ci.length≤A.size∧∃ w',W.setCells g (q * 3) ci=w'∧w'.heap[g]?=some (.cells arr2 82 (0,0))∧Only (fun k => k=g) W w'∧g<w'.heap.size from fun W hW => by
    rcases hW with h|h
    ·exact ⟨arr1,h,n2,setCells_same h s2⟩
    ·exact ⟨arr2,h,n3,setCells_same h s3⟩)
   have HS:=Hh hs;have Hq:=Hh hq;have Hm:=Hh hm;have HT:=Hh hT;have hiN:=infoRuT;have r1:=Hh (show wr.rangeAt g (k * 3) ci from fun j v hj => c1 j v hj);have r2:=Hh (show wr.rangeAt g (q * 3) ck from fun j v hj => c2 j v hj);have hi1:(Tryz.prog.info? 82).map (·.size)=some ci.length:=by rw [l1];exact hiN
   have hi2:(Tryz.prog.info? 82).map (·.size)=some ck.length:=by rw [l2];exact hiN
   have N1:=Hh n1;clear hU hU2 hO2 hs hq hm hT c1 c2 hY s1 s2 s3 z1 z2 hg1 e1' e2' hFs hFg hWF hsa n1 n2 n3;go_wp2
   letI iM:On.Mut:=On.Mut.swap 7 11 13 15 (Only fun b => b=g) (fun a b => Only (fun b => b=g) a b∧(g<a.heap.size→b.heap[g]?=a.heap[g]?∨b.heap[g]?=some (.cells arr2 82 (0,0)))) (Only fun b => b=g) Only.fut (fun h => ⟨Only.fut h,fun hl => .inl (Below.block h g hl)⟩) Only.fut Only.trans Only.trans
   refine On.wp_graph 16 [.d,.d,.d,.d,.d,.d,.d,.d,.d,.d,.d,.d,.d,.r (fun _ w' => g<w'.heap.size∧(w'.heap[g]?=some (.cells arr1 82 (0,0))∨w'.heap[g]?=some (.cells arr2 82 (0,0)))),.d,.r (fun _ w' => w'.heap[g]?=some (.cells arr2 82 (0,0)))] (by kernel_rfl) (by kernel_rfl) (by kernel_rfl) (.inr fun _ _ => trivial) (On.swap_dep (by kernel_rfl) (by kernel_rfl)) ?_;simp only [takS,Exs]
   iterate 14 apply Exists.intro
   iterate 7
    apply On.Run.valG (.inr fun _ _ => trivial) (wanted_none rfl _)
    ·intro w1 h1 hk;go_simp;rfl
    simp only [actS]
   apply On.Run.valG (.inr fun _ _ => trivial) (wanted_none rfl _)
   ·intro w1 h1 hk;exact exec_load_mid _ _ rfl g (q * 3) rfl ck _ (fun j v hj => ((Fut.drew _).trans (show Fut _ _ from h1)).cell (r2.out j v hj)) Tryz.underlying82 rfl hi2
   simp only [actS]
   iterate 3
    apply On.Run.valG (.inr fun _ _ => trivial) (wanted_none rfl _)
    ·intro w1 h1 hk;go_simp;rfl
    simp only [actS]
   apply On.Run.valG (.inr fun _ _ => trivial) (wanted_none rfl _)
   ·intro w1 h1 hk;exact exec_load_mid _ _ rfl g (k * 3) rfl ci _ (fun j v hj => ((Fut.drew _).trans (show Fut _ _ from h1)).cell (r1.out j v hj)) Tryz.underlying82 rfl hi1
   simp only [actS];apply On.Run.valG (.inr fun _ _ => trivial) (wanted_none rfl _)
   ·intro w1 h1 hk;go_simp;rfl
   simp only [actS];apply On.Run.mutSR (.inr fun _ _ => trivial) (wanted_none rfl _) (by intro v w w' hf hs;exact (by obtain ⟨a1,a2⟩:=hs;obtain ⟨b1,b2⟩:=(show Only (fun b => b=g) w w'∧(g<w.heap.size→w'.heap[g]?=w.heap[g]?∨w'.heap[g]?=some (.cells arr2 82 (0,0))) from hf);exact ⟨Nat.lt_of_lt_of_le a1 b1.size,(b2 a1).elim (fun e => by rw [e];exact a2) .inr⟩))
   ·intro w1 h1 hk;obtain ⟨hgw',w9,ew,eg,eO,el⟩:=SA.out _ ((Fut.drew _).trans (show Fut _ _ from h1));exact ⟨w9,by rw [← ew];exact exec_storeM _ _ rfl rfl rfl hgw' N1.out hi2 o2,On.Eff.swap1 eO eO,el,.inl eg⟩
   intro v13;simp only [actS];apply On.Run.valG (.inr fun _ _ => trivial) (wanted_none rfl _)
   ·intro w1 h1 hk;go_simp;rfl
   simp only [actS];apply On.Run.mutSR (.inr fun _ _ => trivial) (wanted_none rfl _) (by intro v w w' hf hs;exact (by have h9:Fut w w':=hf;exact h9.block hs))
   ·intro w1 h1 hk;have f13:=Facts.get hk 0 rfl (by kernel_rfl);obtain ⟨A9,hA9,hs9,w9,ew,eg,eO,el⟩:=SB.out _ f13.2;exact ⟨w9,by rw [← ew];exact exec_storeM _ _ rfl rfl rfl hA9 hs9 hi1 o1,On.Eff.swap2 ⟨eO,fun _ => .inr eg⟩ eO,eg⟩
   intro v15;simp only [actS];apply On.Run.done;intro w2 h2 hk hJ;obtain ⟨f13,f15,_⟩:=hk;have hR2:Only (fun b => b=g) wr w2:=(Only.fut (Fut.drew _)).trans (show Only (fun b => b=g) _ _ from h2);have HU2:=Hh (HX.out _ hR2 f15);have HO2:=Hh (hO.out.trans hR2);clear hR2 f13 f15 h2 HX SA SB;go_wp2;go_roundw
   case rel => exact ⟨k+1,by have:=Hm.out;omega,by go_num,Hh ⟨_,HS.out,HU2.out⟩,HO2⟩
   case measure =>
    have:=Hm.out;simp [intOf] <;> omega
  ·have hltI:¬ (k:Int)<(m:Int):=by omega
   have hx:=hT.1;have hT':=hT;obtain rfl:k=m:=by omega
   rw [hm] at hT';obtain rfl:=hT'.done;have HU:=Hh hU;clear hT hT' hU hY;go_wp2;go_end0;exact ⟨⟨_,rfl⟩,HU.out,hO.out⟩
abbrev Gr:=List (ByteArray×List ByteArray)
def Gr.names (G:Gr):List ByteArray:=G.map (·.1)
def sucs (G:Gr) (s:ByteArray):List ByteArray:=((G.find? fun x => decide (x.1=s)).map (·.2)).getD []
def addG (G:Gr) (s:ByteArray):Gr:=if s ∈ G.names then G else G++[(s,[])]
def pushG (G:Gr) (s t:ByteArray):Gr:=G.map fun x => if x.1=s then (x.1,x.2++[t]) else x
def stepG (p:ByteArray) (G:Gr) (l:Lt):Gr:=addG (pushG G p l.p) l.p
def drawR (G:Gr) (r:Ru):Gr:=(r.b.filter Lt.isA).foldl (stepG r.p) (addG G r.p)
def drawP (rs:List Ru):Gr:=rs.foldl drawR []
abbrev tG:TypeId:=95
theorem zeroSl (w:World):(zeroValue 76).run Tryz.prog w = .ok (.slice none 0 0) w:=by kernel_rfl
def GrI (B:Nat) (W:World) (mb:Nat) (G:Gr):Prop :=
 ∃ vs:List Value,vs.length=G.length∧MapE strV W mb (G.names.zip vs)∧(∀ (i:Nat) v x,vs[i]?=some v→G[i]?=some x→Nms B W v x.2)∧(∀ (i j:Nat) v u k,vs[i]?=some v→vs[j]?=some u→v.ownBlock=some k→u.ownBlock=some k→i=j) ∧
  (∀ x ∈ G,x.1.size≤140737488351232∧∀ y ∈ x.2,y.size≤140737488351232)∧B≤mb
theorem zip_fst {G:Gr} {vs:List Value} (h:vs.length=G.length):(G.names.zip vs).map (·.1)=G.names:=by
 rw [List.map_fst_zip];unfold Gr.names;rw [List.length_map];omega
theorem zip_at {G:Gr} {vs:List Value} {i:Nat} {x:ByteArray×List ByteArray} {v:Value} (h1:G[i]?=some x) (h2:vs[i]?=some v):(G.names.zip vs)[i]?=some (x.1,v):=by
 rw [List.getElem?_zip_eq_some];exact ⟨by unfold Gr.names;rw [List.getElem?_map,h1];rfl,h2⟩
theorem names_at {G:Gr} {s:ByteArray} (h:s ∈ G.names):∃ (i:Nat) (S:List ByteArray),G[i]?=some (s,S):=by
 obtain ⟨x,hx,rfl⟩:=List.mem_map.1 h;obtain ⟨i,hi⟩:=List.getElem?_of_mem hx;exact ⟨i,x.2,hi⟩
theorem sucs_at {G:Gr} (hn:G.names.Nodup) {i:Nat} {s:ByteArray} {S:List ByteArray} (h:G[i]?=some (s,S)):sucs G s=S:=by
 have hv:∀ (G:Gr) (i:Nat),G.names.Nodup→G[i]?=some (s,S)→G.find? (fun x => decide (x.1=s))=some (s,S):=by
  intro G
  induction G with
  | nil => intro i _ h;simp at h
  | cons x r ih =>
   intro i hn h;unfold Gr.names at hn ih;rw [List.map_cons,List.nodup_cons] at hn;cases i with
   | zero =>
    simp at h;subst h;simp
   | succ i =>
    simp at h;have hne:x.1≠s:=fun e => hn.1 (List.mem_map.2 ⟨(s,S),List.mem_of_getElem? h,e.symm⟩);rw [List.find?_cons_of_neg (by simpa using hne)];exact ih i hn.2 h
 unfold sucs;rw [hv G i hn h];rfl
theorem sucs_none {G:Gr} {s:ByteArray} (h:s ∉ G.names):sucs G s=[]:=by
 unfold sucs
 rw [List.find?_eq_none.2 fun x hx => by
  simp only [decide_eq_true_eq];exact fun e => h (List.mem_map.2 ⟨x,hx,e⟩)]
 rfl
section
variable {B mb:Nat} {W w' w3:World} {G:Gr} {s t:ByteArray}
theorem GrI.fut (h:GrI B W mb G) (hf:Fut W w'):GrI B w' mb G:=by
 obtain ⟨vs,h1,h2,h3,h4,h5,h6⟩:=h;exact ⟨vs,h1,h2.fut hf,fun i v x a b => (h3 i v x a b).fut RNm.stays hf,h4,h5,h6⟩
theorem GrI.nodup (h:GrI B W mb G):G.names.Nodup:=by
 obtain ⟨vs,h1,h2,_⟩:=h;have:=h2.nodup
 rwa [zip_fst h1] at this
theorem GrI.sizes (h:GrI B W mb G):∀ q ∈ G.names,q.size≤140737488351232:=fun q hq => by
 obtain ⟨vs,_,_,_,_,h5,_⟩:=h;obtain ⟨x,hx,rfl⟩:=List.mem_map.1 hq;exact (h5 x hx).1
theorem zip_ok {vs:List Value} (hs:∀ q ∈ G.names,q.size≤140737488351232):∀ p ∈ G.names.zip vs,p.1.size≤maxLen:=fun p hp => Nat.le_trans (hs _ (List.of_mem_zip hp).1) (by unfold maxLen;omega)
theorem GrI.look (h:GrI B W mb G) (hs:s.size≤140737488351232):∃ v,Nms B W v (sucs G s)∧∀ W',Fut W W'→(Instr.lookup tG (.map (some mb)) (.string s) false).run Tryz.prog W' = .ok v W'∧(Instr.lookup tG (.map (some mb)) (.string s) true).run Tryz.prog W' = .ok (.tuple #[v,.bool (decide (s ∈ G.names))]) W':=by
 have hz:=h.sizes;have hn:=h.nodup;obtain ⟨vs,h1,h2,h3,h4,h5,h6⟩:=h;have HL:=fun W' (hW:Fut W W') => (h2.fut hW).look (t:=tG) keyStr (zip_ok hz) Tryz.underlying95 zeroSl (x:=s) (Nat.le_trans hs (by unfold maxLen;omega))
 by_cases e:s ∈ G.names
 ·obtain ⟨i,S,hi2⟩:=names_at e;have hlt:=(List.getElem?_eq_some_iff.1 hi2).1;have hv:vs[i]?=some (vs[i]'(by omega)):=List.getElem?_eq_getElem (by omega);generalize vs[i]'(by omega)=v at hv;have hg:=getE_at h2.nodup (zip_at hi2 hv);refine ⟨v,by rw [sucs_at hn hi2];exact h3 i v _ hv hi2,fun W' hW => ?_⟩;have:=HL W' hW;rw [show getE (G.names.zip vs) s=some v from hg] at this;rw [decide_eq_true e];exact this
 ·have hg:getE (G.names.zip vs) s=none:=getE_none fun p hp he => e (by rw [← he];exact (List.of_mem_zip hp).1);refine ⟨.slice none 0 0,by rw [sucs_none e];exact OwnL.nil,fun W' hW => ?_⟩;have:=HL W' hW;rw [hg] at this;rw [decide_eq_false e];exact this
theorem GrI.add (h:GrI B W mb G) (hs:s.size≤140737488351232) (hn:s ∉ G.names):∃ w3,(Instr.mapUpdate tG (.map (some mb)) (.string s) (.slice none 0 0)).run Tryz.prog W = .ok () w3∧W.grownBy w3 (some mb)∧GrI B w3 mb (addG G s):=by
 have hz:=h.sizes;obtain ⟨vs,h1,h2,h3,h4,h5,h6⟩:=h;obtain ⟨w3,hr,h7,h8⟩:=h2.push (t:=tG) keyStr (zip_ok hz) Tryz.underlying95 (x:=s) (Nat.le_trans hs (by unfold maxLen;omega)) (fun p hp he => hn (by rw [← he];exact (List.of_mem_zip hp).1)) (.slice none 0 0);have O:Only (fun k => k=mb) W w3:=Only.grown h8 fun k hk => (Option.some.inj hk).symm;refine ⟨w3,hr,h8,vs++[.slice none 0 0],?_,?_,fun i v x hv hx => ?_,fun i j v u k hv hu hk hk2 => ?_,fun x hx => ?_,h6⟩
 ·unfold addG;rw [if_neg hn,List.length_append,List.length_append,h1];rfl
 ·unfold addG;rw [if_neg hn];have e1:Gr.names (G++[(s,[])])=G.names++[s]:=by unfold Gr.names;rw [List.map_append];rfl
  rw [e1,List.zip_append (by unfold Gr.names;rw [List.length_map];omega)];exact h7
 ·unfold addG at hx;rw [if_neg hn] at hx
  by_cases hi:i<G.length
  ·rw [List.getElem?_append_left (by omega)] at hv hx;have h9:=h3 i v x hv hx
   exact h9.only (fun _ _ h => h) O fun k hk e => by
    obtain ⟨arr,hty⟩:=h9.typed k hk;rw [e] at hty;exact map_ne h2 hty rfl
  ·have:i=G.length:=by
     have:=(List.getElem?_eq_some_iff.1 hx).1;simp at this;omega
   subst this;rw [List.getElem?_append_right (by omega)] at hv hx;simp [h1] at hv hx;subst hv;subst hx;exact OwnL.nil
 ·have key:∀ (i:Nat) v k,(vs++[Value.slice none 0 0])[i]?=some v→v.ownBlock=some k→vs[i]?=some v:=fun i v k hv hk => by
    by_cases hi:i<vs.length
    ·rwa [List.getElem?_append_left hi] at hv
    ·have:i=vs.length:=by
       have:=(List.getElem?_eq_some_iff.1 hv).1;simp at this;omega
     subst this;simp at hv;subst hv;cases hk
  exact h4 i j v u k (key i v k hv hk) (key j u k hu hk2) hk hk2
 ·unfold addG at hx;rw [if_neg hn] at hx;rcases List.mem_append.1 hx with hx|hx
  ·exact h5 x hx
  ·rw [List.mem_singleton] at hx;subst hx;exact ⟨hs,fun y hy => by cases hy⟩
end
end Go.Proofs.YtobabnpllokkaaaGreatDoor
namespace Go.Proofs.YtobabnpllokkaaaGreatDoor
open Go.RowKit Go.Maps Go.WideShapes
open Go.WideElems (Fit rd rg pl rd_val rg_of elemAt)
theorem sorted_graph {w:World} {mb:Nat} {l:List (ByteArray×Value)} (h:MapE strV w mb l) (hk:∀ q ∈ l,q.1.size≤maxLen) (hb:l.length≤8796093022207) :
    Calls Tryz.prog 98 #[.func (.func 267) #[] #[.pointer (some ⟨w.heap.size,0,none⟩)]] (w.alloc (.cells #[.map (some mb)] tG))
     fun e w' => ∃ v,e = .returned v∧OwnL 1 (w.heap.size+1) 9 RNm w' v (sortU cmpS (l.map (·.1)))∧Fut (w.alloc (.cells #[.map (some mb)] tG)) w':=by
 have hnd:=h.nodup;obtain ⟨es,clock,hbk,hst,hes⟩:=h
 have hlen:es.size=l.length:=by
  have:=congrArg List.length hes;simpa using this
 have hkey:∀ x ∈ es.toList,∃ q ∈ l,x.key=strV q.1:=fun x hx => by
  have hm:(x.key,x.val) ∈ es.toList.map (fun e => (e.key,e.val)):=List.mem_map.2 ⟨x,hx,rfl⟩;rw [hes] at hm;obtain ⟨q,hq,e⟩:=List.mem_map.1 hm;injection e with e1 _
  exact ⟨q,hq,e1.symm⟩
 have hrd:∀ x ∈ es.toList,∀ q ∈ l,x.key=strV q.1→rd Tryz.prog 9 (fun _ => some ((DataW.nil:DataW Unit),[])) x=some (.string q.1.data.toList,.nil):=fun x _ q hq e => by
  unfold rd;rw [e,keyOf_str (hk q hq)];rfl
 have F:Fit Tryz.prog 9 (fun _ => some ((DataW.nil:DataW Unit),[])) es clock:=⟨by unfold maxLen;omega,hst,fun x hx => by
  obtain ⟨q,hq,e⟩:=hkey x hx;exact ⟨_,hrd x hx q hq e⟩⟩
 have hown:=World.ownsMap_of_fit (R:=fun _ => some ((DataW.nil:DataW Unit),[])) hbk F (fun _ _ _ h => h);have hsz:Maps.size (DataW.map ((es.toList.map (rg Tryz.prog 9 (fun _ => some ((DataW.nil:DataW Unit),[])))).foldr DataW.insert []))=es.size:=by simp [Maps.size,length_read]
 have hperm:(strKeys (DataW.map ((es.toList.map (rg Tryz.prog 9 (fun _ => some ((DataW.nil:DataW Unit),[])))).foldr DataW.insert []))).Perm ((l.map (·.1)).map (·.data.toList)):=by
  show (((es.toList.map (rg Tryz.prog 9 (fun _ => some ((DataW.nil:DataW Unit),[])))).foldr DataW.insert []).map fun p => strOf p.1).Perm _;refine ((sorted_perm _).map _).trans ?_;rw [List.map_map,List.map_map]
  have e2:∀ (xs:List MapEntry) (ql:List (ByteArray×Value)),(∀ x ∈ xs,x ∈ es.toList)→(∀ q ∈ ql,q ∈ l)→xs.map (fun e => (e.key,e.val))=ql.map (fun p => (strV p.1,p.2)) →
      xs.map ((fun p => strOf p.1) ∘ rg Tryz.prog 9 (fun _ => some ((DataW.nil:DataW Unit),[])))=ql.map ((fun x => x.data.toList) ∘ fun x => x.1):=by
   intro xs
   induction xs with
   | nil => intro ql _ _ e;cases ql with
    | nil => rfl
    | cons a r => simp at e
   | cons x xs ih => intro ql h1 h2 e;cases ql with
    | nil => simp at e
    | cons q ql =>
     simp only [List.map_cons,List.cons.injEq,Prod.mk.injEq] at e;rw [List.map_cons,List.map_cons,ih ql (fun y hy => h1 y (List.mem_cons_of_mem _ hy)) (fun y hy => h2 y (List.mem_cons_of_mem _ hy)) e.2];have h9:=rg_of (hrd x (h1 x List.mem_cons_self) q (h2 q List.mem_cons_self) e.1.1);simp only [Function.comp,h9,strOf]
  rw [e2 es.toList l (fun x hx => hx) (fun q hq => hq) hes]
 refine (callsIn_wide.1 (Tryz.slices_Sorted_keys_98_212 mb _ _ _ w hown (by rw [hsz];unfold maxLen;omega) (by rw [hsz];omega))).mono ?_;rintro e w' ⟨v,ss,rfl,hS,hrow,_,hbw⟩;have hm:=merge_names (hS.trans hperm) hnd;have ho:=names_of_row (by rw [List.length_mergeSort]) hrow;rw [hm] at ho;have hs1:(w.alloc (.cells #[.map (some mb)] tG)).heap.size=w.heap.size+1:=by simp
 rw [hs1] at ho;exact ⟨v,rfl,ho,hbw⟩
def Gr.sorted (G:Gr):List ByteArray:=sortU cmpS G.names
set_option maxHeartbeats 1000000 in
theorem names_any {B mb:Nat} {G:Gr} (w:World) (h:GrI B w mb G) (hb:G.length≤100000000) :
    Calls Tryz.prog 100 #[.map (some mb)] w fun e w' => ∃ v,e = .returned v∧Nms w.heap.size w' v G.sorted∧Fut w w':=by
 have HK:=fun W => (callsIn_wide.1 (Tryz.maps_Keys_212 (some mb) W))
 have hz:=h.sizes;obtain ⟨vs,h1,h2,_⟩:=h;have HS:=Hh (sorted_graph h2 (zip_ok hz) (by rw [List.length_zip];omega));rw [zip_fst h1] at HS;have f0:=Fut.alloc w (.cells #[.map (some mb)] tG);clear h1 h2 hz;replace HK:=Hh HK;go_enter Tryz.func100,Tryz.ntmps100;go_wp2_with fail;refine (HK.out _).mono ?_;rintro e w1 ⟨rfl,rfl⟩;go_wp2_with fail;refine HS.out.mono ?_;rintro e w2 ⟨v,rfl,hv,hf⟩;have HF:=Hh (And.intro (hv.base (Nat.le_succ _)) (f0.trans hf));clear hv hf;go_wp2;go_ret;exact ⟨_,rfl,HF.out⟩
end Go.Proofs.YtobabnpllokkaaaGreatDoor
namespace Go.Proofs.YtobabnpllokkaaaGreatDoor
open Go.RowKit Go.Maps Go.WideShapes Go.Shelf
attribute [local go_sem] Oper.semAt_some
theorem enc_name (x:ByteArray):encStr x.data.toList = .string x:=by
 unfold encStr;simp
set_option maxRecDepth 100000 in
set_option maxHeartbeats 2000000 in
theorem values1_in {M m:Nat} (l Bs:Nat) (A:Option Addr) (c:Nat) (xs:List ByteArray) (w:World) (hsl:SlRep 1 M RNm w (.slice A xs.length c) xs) (hM:M≤9223372036854775807) (hBs:w.cell? ⟨Bs,0,none⟩=some (.slice A xs.length c))
    (J:List (List UInt8)→World→Prop) (hJ:∀ s W1,J s W1→Fut w W1) (hY:∀ pre x W1,J pre W1→pre.length<xs.length→YieldAt Fence.wide m Tryz.prog l #[encStr x] W1 fun e W' => e = .returned (.bool true)∧J (pre++[x]) W') (W:World) (h0:J [] W) :
    CallsIn Fence.wide (m+1) Tryz.prog 211 #[.func (.yield l) #[] #[],.pointer (some ⟨Bs,0,none⟩)] W fun e W' => (∃ v,e = .returned v)∧J (xs.map (·.data.toList)) W':=by
 obtain ⟨_,_,_,hl1,hl2⟩:=hsl.form;have hxl:xs.length≤9223372036854775807:=by omega
 have y0:=(hJ _ _ h0).cell hBs;refine callsIn_of_wp Tryz.func211 rfl trivial ?_ rfl;simp only [Tryz.ntmps211,List.size_toArray,List.length_cons,List.length_nil,Nat.reduceAdd,Nat.reduceSub,Array.replicate_succ,Array.replicate_zero,List.push_toArray,List.append_toArray,List.nil_append,List.cons_append]
 gi_wp2
 gi_loopw [7] (fun i wr => ∃ k:Nat,k≤xs.length∧i = .int .i64 k∧J ((xs.take k).map (·.data.toList)) wr) (fun i _ => xs.length - (intOf i).toNat)
 case atStart => exact ⟨0,Nat.zero_le _,rfl,h0⟩
 case round =>
  obtain ⟨k,hk,rfl,hJs⟩:=hrel
  by_cases hlt:k<xs.length
  ·have hltI:(k:Int)<xs.length:=by omega
   have e0:(0:Int)≤k∧(k:Int)<xs.length:=by omega
   obtain ⟨b,off,rfl,z0⟩:=nm_at hsl hlt;have z1:=(hJ _ _ hJs).cell z0;have hnx:=Hh (show (xs.take (k+1)).map (·.data.toList)=(xs.take k).map (·.data.toList)++[(xs[k]).data.toList] by rw [List.take_succ_eq_append_getElem hlt,List.map_append];rfl);obtain ⟨fn,tmps,assign,body,hy,hR⟩:=hY _ (xs[k]).data.toList wr hJs (by rw [List.length_map,List.length_take];omega);rw [enc_name] at hy;generalize xs[k]=x at *
   gi_wp2
   refine hR.mono ?_;rintro e W3 ⟨rfl,hJ3⟩;rw [← hnx.out] at hJ3
   gi_wp2
   go_roundw
   case rel => exact ⟨k+1,by omega,by go_num,hJ3⟩
   case measure => simp [intOf] <;> omega
  ·obtain rfl:k=xs.length:=by omega
   rw [List.take_length] at hJs
   gi_wp2
   go_end0;exact ⟨⟨_,rfl⟩,hJs⟩
end Go.Proofs.YtobabnpllokkaaaGreatDoor
