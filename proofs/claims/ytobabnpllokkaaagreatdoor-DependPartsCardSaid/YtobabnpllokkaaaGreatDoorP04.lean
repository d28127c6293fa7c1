/- Parts. -/
import Derived.Maps.AppendAt
import Derived.Great.BuildSlice
import Derived.Lib.AppendZerosOnto
import Derived.Test.YtobabnpllokkaaaGreatDoorP01
import Derived.Test.YtobabnpllokkaaaGreatDoorP02
import Derived.Test.YtobabnpllokkaaaGreatDoorP03
import Derived.Test.YtobabnpllokkaaaGreatDoorP00
set_option linter.unusedSimpArgs false
set_option linter.unusedVariables false
namespace Go.Proofs.YtobabnpllokkaaaGreatDoor
open Go.RowKit
def sink1B (ops:Array Oper) (n:Nat):Bool :=
 (List.range n).all fun i => decide (i=0) || (List.range (n+1)).any fun j => decide (i<j) && Region.waitsFor .any ops j i
def sinkB0 (ops:Array Oper) (n:Nat):Bool:=decide (n=ops.size) || (sink1B ops n && Region.chainB .any ops n)
def tailB0 (ops:Array Oper) (n:Nat):Bool:=sinkB0 ops n && Region.seqB .any ops (ops.size - n) n (headDone n ops.size)
def takeB (ops:Array Oper):Bool:=match ops[0]? with
 | none => false
 | some o => (match o.guard with|none => true|some _ => false) && (match o.op with | .move (.tmp _) => true|_ => false) && Region.free .any ops (Array.replicate ops.size false) 0 && (Region.ready .any ops (Array.replicate ops.size false)).contains 0
theorem tail_waits0 {ops:Array Oper} {n:Nat} {listed:Array Bool} (hs:sink1B ops n=true) (hc:Region.chainB .any ops n=true) (hn:n<ops.size) (inv:HeadInv .any ops n listed) :
    ∀ (d i:Nat),n - i=d→i<n→i≠0→listed.getD i true=false→∀ t,n≤t→t ∉ Region.ready .any ops listed:=by
 intro d
 induction d using Nat.strongRecOn with
 | _ d ih =>
  intro i hd hi hi0 hun t ht hr;obtain ⟨_,ot,hot,hall⟩:=mem_ready.1 hr;have htlt:t<ops.size:=(Array.getElem?_eq_some_iff.1 hot).1
  by_cases htn:t=n
  ·subst htn;have h1:=List.all_eq_true.1 hs i (List.mem_range.2 hi);simp only [hi0,decide_false,Bool.false_or] at h1;obtain ⟨j,hj,hj2⟩:=List.any_eq_true.1 h1;simp only [Bool.and_eq_true,decide_eq_true_eq] at hj2;obtain ⟨oj,hoj,e,he,hb,hon⟩:=Region.waitsFor_spec hj2.2;have hjle:j≤t:=by have:=List.mem_range.1 hj;omega
   by_cases hjt:j=t
   ·subst hjt;have:oj=ot:=Option.some.inj (hoj.symm.trans hot);subst this;have h2:=hall e he hb;rw [hon,getD_both hun] at h2;cases h2
   ·cases hl:listed.getD j false with
    | true =>
     have h2:=inv.closed j oj hoj hl e he hb;rw [hon,getD_both hun] at h2;cases h2
    | false =>
     have hjs:j<listed.size:=by rw [inv.size];omega
     exact ih (t - j) (by omega) j rfl (by omega) (by omega) (getD_in hjs hl) t (Nat.le_refl _) hr
  ·have h1:=List.all_eq_true.1 hc t (List.mem_range.2 htlt);simp only [Bool.or_eq_true,decide_eq_true_eq] at h1;rcases h1 with h1|h1
   ·omega
   ·obtain ⟨o',ho',e,he,hb,hon⟩:=Region.waitsFor_spec h1;have:o'=ot:=Option.some.inj (ho'.symm.trans hot);subst this;have h2:=hall e he hb;rw [hon,getD_both (inv.tail (t - 1) (by omega) (by omega))] at h2;cases h2
theorem wp_region_graph0 {P:Program} {id:Nat} {Q:Exit→Act→World→Prop} {a0:Act} {w:World} {l:List Oper} (n:Nat) (hm:P.follows .mixedOrders=true)
    (hB:(graphB l.toArray n && tailB0 l.toArray n)=true) (ht0:takeB l.toArray=true) (hn0:0<n) (hQ:∀ c v w,∀ a:Act,∀ o,l[0]?=some o→Q (.panic c) (a.put o.dst v) w→Q (.panic c) a w) (hsz:((List.range n).all fun k => match dstAt l.toArray k with|some d => decide (d<a0.tmps.size)|none => true)=true)
    (h:Obl P l.toArray w.drew a0 (wpList P l.toArray Q (l.drop n)) (l.take n) []):(Code.region id l.toArray true).wp P Q a0 w:=by
 simp only [Bool.and_eq_true,tailB0] at hB;obtain ⟨hG,hS,hseq⟩:=hB;obtain ⟨hsel,hns,hg⟩:=graphB_spec hG;have hnl:n≤l.length:=by simpa using hns
 have hbd:∀ k d,dstAt l.toArray k=some d→k<n→d<a0.tmps.size:=fun k d hd hk => by
  have:=List.all_eq_true.1 hsz k (List.mem_range.2 hk);simpa [hd] using this
 obtain ⟨full,hfl,_,hob,hfin⟩:=Obl_split _ _ h;simp only [List.length_nil,Nat.zero_add] at hfl hob;have htl:(l.take n).length=n:=by simp;omega
 rw [htl] at hfl
 -- the specifications
 obtain ⟨sp,hsp⟩:∃ sp:Nat→Sp,∀ k,sp k=((full[k]?).map (·.2)).getD (.det undef):=⟨_,fun _ => rfl⟩
 have hfull:∀ k,k<n→∃ o,l[k]?=some o∧full[k]?=some (dstAt l.toArray k,sp k)∧(sp k).mono ∧
     ∀ w',Fut w.drew w'→lexAct o w' (fun a => givesG P l.toArray o a (sp k) w') 0 (full.take k) a0:=fun k hk => by
  have hlk:l[k]?=some (l[k]'(by omega)):=List.getElem?_eq_getElem (by omega);obtain ⟨s,hs,hmono,hlex⟩:=hob k _ (by rw [List.getElem?_take,if_pos hk];exact hlk);have hspk:sp k=s:=by rw [hsp,hs];rfl
  refine ⟨_,hlk,?_,by rw [hspk];exact hmono,by rw [hspk];exact hlex⟩;rw [hs,hspk];simp [dstAt,hlk]
 refine wp_region_any hm ?_
 have main:∀ (f:Nat) (listed:Array Bool) (a:Act) (w':World) (vs:Nat→Value),GInv l.toArray n sp a0 w.drew vs listed a w'→listed.getD 0 false=true→unl listed n=f →
     wpAny P .any l.toArray Q (f+(l.length - n)) listed a w':=by
  intro f
  induction f with
  | zero =>
   intro listed a w' vs inv hl0 hf;rw [Nat.zero_add]
   have hlisted:listed=headDone n l.length:=by
    refine Array.ext_getElem? fun t => ?_
    by_cases ht:t<l.length
    ·have hts:t<listed.size:=by rw [inv.lsize];simpa using ht
     have h2:(headDone n l.length)[t]?=some (decide (t<n)):=by simp [headDone,ht]
     rw [h2,Array.getElem?_eq_getElem hts]
     by_cases htn:t<n
     ·have:=unl_zero n hf t htn;simp [hts] at this;simp [htn,this]
     ·have:=inv.tail t (by omega) (by simpa using ht);simp [hts] at this;simp [htn,this]
    ·rw [Array.getElem?_eq_none (by rw [inv.lsize];simp;omega),Array.getElem?_eq_none (by simp [headDone];omega)]
   have hlast:=lexFin_inst (K:=fun a => wpList P l.toArray Q (l.drop n) a w') vs full 0 a0 (hfin w' inv.fut) fun j d S hj => by
    rw [Nat.zero_add];have hjn:j<n:=by rw [← hfl];exact (List.getElem?_eq_some_iff.1 hj).1
    obtain ⟨_,_,h1,_,_⟩:=hfull j hjn;rw [hj] at h1;simp only [Option.some.injEq,Prod.mk.injEq] at h1;have:=inv.held j hjn (unl_zero n hf j hjn);rw [← h1.2] at this;exact this
   have hact:a=putAll vs 0 full a0:=by
    refine act_ext (fun t => ?_) ?_
    ·by_cases hex:∃ k,k<n∧dstAt l.toArray k=some t
     ·obtain ⟨k,hk,hkd⟩:=hex;obtain ⟨_,_,h1,_,_⟩:=hfull k hk;rw [hkd] at h1;rw [inv.slot k t hk (unl_zero n hf k hk) hkd,putAll_at vs t full 0 a0 k (sp k) (hbd k t hkd hk) h1,Nat.zero_add]
      ·have h2:=inv.held k hk (unl_zero n hf k hk);cases hs:sp k with
       | det c => rw [hs] at h2;simp only [Sp.holds] at h2;rw [h2];rfl
       | rel S => rfl
      ·intro j d s' hj hd;have hjn:j<n:=by rw [← hfl];exact (List.getElem?_eq_some_iff.1 hj).1
       obtain ⟨_,_,h3,_,_⟩:=hfull j hjn;rw [hj] at h3;simp only [Option.some.injEq,Prod.mk.injEq] at h3;have hjd:dstAt l.toArray j=some t:=h3.1.symm.trans hd;rcases Nat.lt_trichotomy j k with h'|h'|h'
       ·obtain ⟨ok,hok,_,hd2,_⟩:=hg k hk;exact absurd hjd (hd2 t (by simpa [dstAt,hok] using hkd) j h')
       ·exact h'
       ·obtain ⟨oj,hoj,_,hd2,_⟩:=hg j hjn;exact absurd hkd (hd2 t (by simpa [dstAt,hoj] using hjd) k h')
     ·rw [inv.free t fun k hk _ hd => hex ⟨k,hk,hd⟩,putAll_other];intro d s hmem hd;obtain ⟨j,hj⟩:=List.getElem?_of_mem hmem;have hjn:j<n:=by rw [← hfl];exact (List.getElem?_eq_some_iff.1 hj).1
      obtain ⟨_,_,h3,_,_⟩:=hfull j hjn;rw [hj] at h3;simp only [Option.some.injEq,Prod.mk.injEq] at h3;exact hex ⟨j,hjn,h3.1.symm.trans hd⟩
    ·rw [inv.defers]
     have:∀ (acc:List (Option Tmp×Sp)) (k:Nat) (b:Act),(putAll vs k acc b).defers=b.defers:=by
      intro acc
      induction acc with
      | nil => intro k b;rfl
      | cons x r ih =>
       intro k b;obtain ⟨d,s⟩:=x;cases s <;> simp only [putAll] <;> rw [ih,put_defers']
     rw [this]
   rw [← hact] at hlast
   have:=wpAny_of_seq (md:=.any) (P:=P) (Q':=Q) (l.drop n) n listed a w' (fun j => by simp [List.getElem?_drop])
    (by rw [hlisted,List.length_drop];simpa using hseq) hlast
   rwa [List.length_drop] at this
  | succ f ih =>
   intro listed a w' vs inv hl0 hf;obtain ⟨i0,hi0,hi1,hi2⟩:=unl_some n (by rw [hf];omega);have hils:∀ i,i<n→i<listed.size:=fun i hi => by rw [inv.lsize];simp;omega
   have hready:i0 ∈ Region.ready .any l.toArray listed:=by
    obtain ⟨o,ho,hedge,_⟩:=hg i0 hi0;exact mem_ready.2 ⟨getD_in (hils i0 hi0) hi1,o,ho,fun e he hb => hi2 _ (hedge e he hb)⟩
   rw [show f+1+(l.length - n)=(f+(l.length - n))+1 by omega];refine ⟨fun h0 => (by rw [h0] at hready;cases hready),fun i hi => ?_⟩
   have hin:i<n:=by
    rcases Nat.lt_or_ge i n with h'|h'
    ·exact h'
    ·exfalso
     have hisz:i<l.toArray.size:=by
      obtain ⟨_,o,ho,_⟩:=mem_ready.1 hi;exact (Array.getElem?_eq_some_iff.1 ho).1
     simp only [sinkB0,Bool.or_eq_true,decide_eq_true_eq,Bool.and_eq_true] at hS;rcases hS with hS|⟨hs,hc⟩
     ·omega
     ·exact tail_waits0 hs hc (by omega) ⟨inv.lsize,inv.closed,inv.tail⟩ _ i0 rfl hi0 (fun e => by rw [e,hl0] at hi1;cases hi1) (getD_in (hils i0 hi0) hi1) i h' hi
   refine inv.step (full:=full) (Q:=Q) hG hbd (fun k hk => (by obtain ⟨_,_,h1,_,_⟩:=hfull k hk;exact h1)) hfl (fun k hk => (by obtain ⟨_,_,_,h1,_⟩:=hfull k hk;exact h1))
    (fun o ho => (by
     obtain ⟨o',ho',_,_,h1⟩:=hfull i hin;have:o=o':=Option.some.inj ((by simpa using ho.symm:some o=l[i]?).trans ho');subst this;exact h1)) hi hin fun v a' w'' inv' => ih _ a' w'' _ inv' (by
     by_cases hi0':i=0
     ·subst hi0';have:=(mem_ready.1 hi).1;rw [getD_both this] at hl0;cases hl0
     ·rw [getD_set_ne false hi0'];exact hl0) ?_
   have hun:=getD_both (mem_ready.1 hi).1;have:=unl_set hun (hils i hin) n hin;omega
 obtain ⟨o0,hl0,h1,_,hlex0⟩:=hfull 0 hn0;have hi0:l.toArray[0]?=some o0:=by simpa using hl0
 unfold takeB at ht0;rw [hi0] at ht0;simp only [Bool.and_eq_true] at ht0;obtain ⟨⟨⟨hgd,hmv⟩,hfree⟩,hrdy⟩:=ht0
 have hwant:Region.wanted o0 (yielded l.toArray a0.tmps)=true:=by
  unfold Region.wanted;cases hg':o0.guard with
  | none => rfl
  | some x => rw [hg'] at hgd;cases hgd
 obtain ⟨y,hop⟩:∃ y,o0.op = .move (.tmp y):=by
  split at hmv
  ·rename_i y hop;exact ⟨y,hop⟩
  ·cases hmv
 have hexec:∀ w',(execOp a0.eval o0).run P w' = .ok (.value (a0.eval (.tmp y))) w':=fun w' => by
  unfold execOp;simp only [hop,Sem.run_pure]
 have hS0:∀ w',Fut w.drew w'→(sp 0).holds (a0.eval (.tmp y)) w':=fun w' hw' => by
  have h2:=hlex0 w' hw';simp only [List.take_zero,lexAct,givesG] at h2;rw [if_pos hwant] at h2;unfold gives at h2;rw [hexec w'] at h2;exact h2.2
 have hsz0:l.toArray.size=(l.toArray.size - 1)+1:=by
  have:=(Array.getElem?_eq_some_iff.1 hi0).1;omega
 have hd0:dstAt l.toArray 0=o0.dst:=by unfold dstAt;rw [hi0];rfl
 rw [hsz0];refine wpAny_take hi0 hsel (by rw [← hsz0];exact hfree) (by rw [← hsz0];exact hrdy) (fun c a w => hQ c _ w a o0 hl0) (.inl ⟨hwant,hexec⟩) ?_;have hLs:0<(Array.replicate (l.toArray.size - 1+1) false).size:=by simp
 have hcl:∀ j,((Array.replicate (l.toArray.size - 1+1) false).setIfInBounds 0 true).getD j false=true→j=0:=fun j hj => by
  by_cases hj0:j=0
  ·exact hj0
  ·rw [getD_set_ne false (Ne.symm hj0),getD_replicate_false] at hj;cases hj
 have inv0:GInv l.toArray n sp a0 w.drew (fun _ => a0.eval (.tmp y)) ((Array.replicate (l.toArray.size - 1+1) false).setIfInBounds 0 true) (a0.put o0.dst (a0.eval (.tmp y))) w.drew:=by
  refine ⟨by rw [put_size],by rw [put_defers'],Fut.refl _,fun t ht => ?_,fun k hk hl => ?_,fun k d hk hl hd => ?_,by rw [Array.size_setIfInBounds,Array.size_replicate];exact hsz0.symm,fun j oj hj hl e he hb => ?_,fun t ht ht' => ?_⟩
  ·rw [put_other _ _ _ _ (by rw [← hd0];exact ht 0 hn0 (by simp))]
  ·rw [hcl k hl];exact hS0 _ (Fut.refl _)
  ·have hk0:=hcl k hl;subst hk0;rw [hd0] at hd;rw [hd];exact put_same _ _ _ (hbd 0 d (hd0.trans hd) hn0)
  ·have hj0:=hcl j hl;subst hj0;obtain ⟨o',ho',hedge,_⟩:=hg 0 hn0;have:oj=o':=Option.some.inj (hj.symm.trans ho');subst this;exact absurd (hedge e he hb) (by omega)
  ·rw [getD_set_ne true (by omega)];exact getD_in (by rw [Array.size_replicate,← hsz0];exact ht') (getD_replicate_false _ _)
 have hun:unl ((Array.replicate (l.toArray.size - 1+1) false).setIfInBounds 0 true) n+1=n:=by
  rw [unl_set (getD_replicate_false _ _) (by simp) n hn0,unl_none]
 have:=main (n - 1) _ _ _ _ inv0 (by simp) (by omega)
 rwa [show n - 1+(l.length - n)=l.toArray.size - 1 by simp;omega] at this
theorem wp_graph0 {P:Program} {id:Nat} {Q:Exit→Act→World→Prop} {a0:Act} {w:World} {l:List Oper} (n:Nat) (shape:List Sh) (hm:P.follows .mixedOrders=true)
    (hB:(graphB l.toArray n && tailB0 l.toArray n)=true) (ht0:takeB l.toArray=true) (hn0:0<n) (hQ:∀ c v w,∀ a:Act,∀ o,l[0]?=some o→Q (.panic c) (a.put o.dst v) w→Q (.panic c) a w) (hsz:((List.range n).all fun k => match dstAt l.toArray k with|some d => decide (d<a0.tmps.size)|none => true)=true)
    (h:Exs (fun sps => Run P l.toArray w.drew (wpList P l.toArray Q (l.drop n)) 0 (l.take n) sps a0 []) shape):(Code.region id l.toArray true).wp P Q a0 w:=by
 obtain ⟨sps,hs⟩:=Exs_some shape h;exact wp_region_graph0 n hm hB ht0 hn0 hQ hsz (Obl_of_run _ sps [] fun _ => hs)
section
variable {α:Type} {sz B M:Nat} {e:TypeId} {R:World→List Value→α→Prop} {w w':World} {v u:Value} {xs ys:List α}
theorem run_append_list_at {P:Program} (t ty:TypeId) (i:TypeInfo) (z:Value) (bytes:Nat) (ht:P.underlying t=some (.slice e)) (hi:P.info? e=some i) (hz:i.zero=some z) (hsize:i.size=sz) (hby:i.bytes=bytes) (hzs:z.cells.size=sz) (hsz:0<sz)
    (hR1:∀ w cs x,R w cs x→∀ u ∈ cs,u.oneCell'=true) (hRk:∀ w' cs (x:α),R w cs x→w.grownBy w' v.ownBlock→R w' cs x)
    (h:OwnL sz B e R w v xs) (hu:SlRep sz M R w u ys) (h63:xs.length+ys.length≤maxLen) (hbytes:(xs.length+ys.length) * bytes≤140737488355328) (hbase:B≤w.heap.size) :
    ∃ v' w',(Builtin.append_ #[t,t] ty #[v,u]).run P w = .ok v' w'∧OwnL sz B e R w' v' (xs++ys)∧w.grownBy w' v.ownBlock∧(v'.ownBlock=v.ownBlock∨v'.ownBlock=some w.heap.size):=by
 have h0:=h;obtain ⟨css,h1,h2,h3⟩:=h;obtain ⟨A,cap,rfl,hl,hm,hx⟩:=hu;have hgrow:∀ w',w.grownBy w' v.ownBlock→∀ (i:Nat) (cs:List Value) (x:α),css[i]?=some cs→xs[i]?=some x→cs.length=sz∧R w' cs x:=fun w' hg i cs x hi hx => ⟨(h2 i cs x hi hx).1,hRk _ _ _ (h2 i cs x hi hx).2 hg⟩
 cases A with
 | none =>
  have hy:ys=[]:=by
   cases ys with
   | nil => rfl
   | cons y r => obtain ⟨_,_,_,hA,_⟩:=hx 0 y rfl;cases hA
  subst hy;obtain ⟨A',cap',hv,hl',_⟩:=h0.rep.form;subst hv;exact ⟨_,w,run_append_none t ty i ht hi A' _ cap' cap hl' w,by rw [List.append_nil];exact h0,World.grownBy.refl w _,.inl rfl⟩
 | some a =>
  obtain ⟨news,hnl,hnews⟩:=exists_list (p:=fun k (cs:List Value) => ∃ y,ys[k]?=some y∧cs.length=sz∧R w cs y∧∀ j c,cs[j]?=some c→w.cell? (a.add (k * sz+j))=some c) ys.length fun k hk => by
   obtain ⟨b,off,cs,hA,b1,b2,b3⟩:=hx k _ (List.getElem?_eq_getElem hk);injection hA with hA
   subst hA;refine ⟨cs,_,List.getElem?_eq_getElem hk,b1,b3,fun j c hj => ?_⟩;rw [← b2 j c hj];congr 1;unfold Addr.add
   by_cases h':k * sz+j=0 <;> first|(simp [h'];done)|(simp [h'];omega)
  have hs:∀ (i:Nat) (cs:List Value),news[i]?=some cs→cs.length=sz:=fun i cs hi => by obtain ⟨y,_,b1,_⟩:=hnews i cs hi;exact b1
  have hcells:∀ j u,news.flatten[j]?=some u→w.cell? (a.add j)=some u:=fun j u hj => by
   have hjl:j<news.length * sz:=by
    have:=(List.getElem?_eq_some_iff.1 hj).1
    rwa [flatten_len hs] at this
   have hk:j / sz<news.length:=Nat.div_lt_of_lt_mul (by rw [Nat.mul_comm];exact hjl);obtain ⟨y,_,b1,_,b2⟩:=hnews (j / sz) _ (List.getElem?_eq_getElem hk);have hr:j % sz<(news[j / sz]).length:=by rw [b1];exact Nat.mod_lt _ hsz
   have e1:=flatten_at hs (j / sz) (j % sz) _ _ (List.getElem?_eq_getElem hk) (List.getElem?_eq_getElem hr);have e2:=b2 (j % sz) _ (List.getElem?_eq_getElem hr);rw [show j / sz * sz+j % sz=j by rw [Nat.mul_comm];exact Nat.div_add_mod j sz] at e1 e2;rw [hj] at e1;rw [e2,← e1]
  have hone:∀ u ∈ news.flatten,u.oneCell'=true:=fun u hu => by
   obtain ⟨cs,hc,hu⟩:=List.mem_flatten.1 hu;obtain ⟨k,hk⟩:=List.getElem?_of_mem hc;obtain ⟨y,_,_,b3,_⟩:=hnews k cs hk;exact hR1 _ _ _ b3 u hu
  obtain ⟨v',w',r1,r2,r3,_,r5⟩:=run_append_own_at (P:=P) w B t ty e i z sz bytes ht hi hz hsize hby hzs hsz v xs.length css.flatten h3 a ys.length cap news.flatten (by rw [flatten_len hs,hnl]) hcells hone h63 hbytes hbase;refine ⟨v',w',r1,⟨css++news,by simp [h1,hnl],fun k cs x hk hx' => ?_,by rw [List.flatten_append,List.length_append];exact r2⟩,r3,r5⟩;rcases Nat.lt_or_ge k css.length with h'|h'
  ·rw [List.getElem?_append_left h'] at hk;rw [List.getElem?_append_left (by omega)] at hx';exact hgrow w' r3 k cs x hk hx'
  ·rw [List.getElem?_append_right h'] at hk;rw [List.getElem?_append_right (by omega)] at hx';obtain ⟨y,e1,b1,b3,_⟩:=hnews _ _ hk;rw [h1,hx'] at e1;obtain rfl:=Option.some.inj e1;exact ⟨b1,hRk _ _ _ b3 r3⟩
def Apart (v u:Value):Prop:=∀ k,v.ownBlock=some k→u.ownBlock≠some k
theorem OwnL.apart {row:Option Nat} (h:OwnL sz B e R w v xs) (hR:∀ cs x,R w cs x→R w' cs x) (hg:w.grownBy w' row) (hne:∀ k,row=some k→v.ownBlock≠some k):OwnL sz B e R w' v xs:=by
 obtain ⟨css,h1,h2,h3⟩:=h;refine ⟨css,h1,fun i cs x hi hx => ⟨(h2 i cs x hi hx).1,hR _ _ (h2 i cs x hi hx).2⟩,h3.kept hg ?_⟩;cases hv:v.ownBlock with
 | none => exact .inl rfl
 | some k => exact .inr fun hr => hne k hr.symm hv
end
end Go.Proofs.YtobabnpllokkaaaGreatDoor
namespace Go.Proofs.YtobabnpllokkaaaGreatDoor
open Go.RowKit Go.WideMaps
section
variable {P:Program} {t k e:TypeId} {w:World} {o:Oper} {a:Act} {x:Rw}
end
theorem set_blk {w:World} {g i:Nat} {cs:Array Value} {t:TypeId} {fr:Nat×Nat} {v:Value} (h:w.heap[g]?=some (.cells cs t fr)):(w.setCell ⟨g,i,none⟩ v).heap[g]?=some (.cells (cs.setIfInBounds i v) t fr):=by
 simp [World.setCell,Array.getElem?_modify,h]
theorem wpList_store_1 {P:Program} {t:TypeId} {ops:Array Oper} {rest:List Oper} {o:Oper} {a:Act} {Q:Exit→Act→World→Prop} {w w':World} {g i:Nat} {v u:Value} (hgd:Region.wanted o (yielded ops a.tmps)=true) (x y:Operand)
    (ho:o.op = .store t x y) (hx:a.eval x = .pointer (some ⟨g,i,none⟩)) (hy:a.eval y=v) (hi:(P.info? t).map (·.size)=some 1) (h1:v.oneCell'=true) (hc:w.cell? ⟨g,i,none⟩=some u) (hz:w.frozen? ⟨g,i,none⟩=false)
    (hw:w.setCell ⟨g,i,none⟩ v=w') (h:wpList P ops Q rest (a.put o.dst undef) w'):wpList P ops Q (o :: rest) a w:=by
 subst hw;refine wpList_of_skip hgd ?_ h
 have hcl:v.cells=#[v]:=by
  unfold Value.cells;unfold Value.oneCell' at h1
  split at h1 <;> simp_all
 have h2:=run_storeCells_cells (P:=P) g i [v] 0 w (fun j hj => by
  simp at hj;subst hj;show (w.cell? ⟨g,i,none⟩).isSome=true;rw [hc];rfl) (fun j hj => by simp at hj;subst hj;exact hz) (fun u hu => by simp at hu;subst hu;exact h1)
 simp only [Nat.add_zero,World.setCells] at h2;unfold execOp;cases hq:P.info? t with
 | none => simp [hq] at hi
 | some ii =>
  have hs:ii.size=1:=by simpa [hq] using hi
  simp [ho,hx,hy,Instr.storeAt,Instr.sureAddr,storeVar,sizeOf,typeInfo,hq,hs,hcl,h2]
end Go.Proofs.YtobabnpllokkaaaGreatDoor
namespace Go.Proofs.YtobabnpllokkaaaGreatDoor
open Go.RowKit
def Ex.op:Ex→Int
 | .mk op _ _ => op
def Ex.t:Ex→Tm
 | .mk _ t _ => t
def Ex.cs (x:Ex) (kv:Value):List Value:=[.int .i8 x.op,.string x.t.v,.int .i8 x.t.x.k,.int .i64 x.t.x.n,.string x.t.x.s,kv]
theorem ex_cs {w:World} {cs:List Value} {x:Ex} (h:RX w cs x):∃ n A l c,cs=x.cs (.slice A l c)∧RE n w (x.cs (.slice A l c)) x:=by
 obtain ⟨n,h⟩:=h;obtain ⟨m,op,t,ks,A,c,hn,rfl,rfl,h1,h2,h3⟩:=ex_form h;exact ⟨n,A,ks.length,c,rfl,h⟩
def Lt.cs (x:Lt) (av kl kd:Value):List Value:=[.int .i8 x.k,.string x.p,av,.int .i8 x.r,.int .i8 x.l.op,.string x.l.t.v,.int .i8 x.l.t.x.k,.int .i64 x.l.t.x.n,.string x.l.t.x.s,kl,.int .i8 x.d.op,.string x.d.t.v,.int .i8 x.d.t.x.k,.int .i64 x.d.t.x.n,.string x.d.t.x.s,kd]
structure LtC (w:World) (x:Lt) (av kl kd:Value):Prop where
 args:SlRep 4 2932031007402 RTm w av x.a
 left:∃ n,RE n w (x.l.cs kl) x.l
 right:∃ n,RE n w (x.d.cs kd) x.d
 kw:(Lit.int .i8 x.k).wf=true
 rw':(Lit.int .i8 x.r).wf=true
 pw:x.p.size≤140737488351232
theorem lt_cs {w:World} {cs:List Value} {x:Lt} (h:RLt w cs x):∃ A c Al l cl Ad d cd,cs=x.cs (.slice A x.a.length c) (.slice Al l cl) (.slice Ad d cd)∧x.a.length≤c∧c≤2932031007402∧LtC w x (.slice A x.a.length c) (.slice Al l cl) (.slice Ad d cd):=by
 obtain ⟨av,cl,cd,h1,_,_,h4,h5,h6,h7,h8,h9⟩:=h;obtain ⟨n1,Al,l1,c1,rfl,e1⟩:=ex_cs h8;obtain ⟨n2,Ad,l2,c2,rfl,e2⟩:=ex_cs h9;obtain ⟨A,c,rfl,g1,g2⟩:=h7.form;exact ⟨A,c,Al,l1,c1,Ad,l2,c2,h1,g1,g2,h7,⟨n1,e1⟩,⟨n2,e2⟩,h4,h5,h6⟩
theorem LtC.fut {w w':World} {x:Lt} {av kl kd:Value} (h:LtC w x av kl kd) (hf:Fut w w'):LtC w' x av kl kd :=
 ⟨h.args.fut RTm.stays hf,by obtain ⟨n,e⟩:=h.left;exact ⟨n,RE.stays n _ _ _ _ hf e⟩,by obtain ⟨n,e⟩:=h.right;exact ⟨n,RE.stays n _ _ _ _ hf e⟩,h.kw,h.rw',h.pw⟩
def Lt.parts (x:Lt):Nat:=1+x.a.length+x.l.size+x.d.size
def Lt.flat (x:Lt):Prop:=x.l.depth≤65537∧x.d.depth≤65537
def Ru.parts (r:Ru):Nat:=1+r.h.length+(r.b.map Lt.parts).sum
def Ru.flat (r:Ru):Prop:=∀ x ∈ r.b,x.flat
set_option maxHeartbeats 2000000 in
set_option maxRecDepth 100000 in
theorem literalParts_any (x:Lt) (A:Option Addr) (c:Nat) (kl kd:Value) (left:Nat) (w:World) (h:LtC w x (.slice A x.a.length c) kl kd) (hc:c≤2932031007402) (hcl:x.a.length≤c) (hleft:left≤1048576) :
    Calls Tryz.prog 86 #[.agg (x.cs (.slice A x.a.length c) kl kd).toArray,.int .i64 left] w fun e w' => ∃ r:Nat,e = .returned (.int .i64 r)∧(r=left+1∨(r=x.parts∧r≤left∧x.flat))∧Fut w w':=by
 have HL:=Hh h;have hP:=Hh (rfl:x.parts=1+x.a.length+x.l.size+x.d.size);have hFl:=Hh (Iff.rfl:x.flat↔x.l.depth≤65537∧x.d.depth≤65537);have HE1:=Hh (fun (W:World) (hW:Fut w W) (lf:Nat) (hlf:lf≤1048576) => by obtain ⟨n,e⟩:=(h.fut hW).left;exact exprParts_any x.l _ _ kl lf W e hlf);have HE2:=Hh (fun (W:World) (hW:Fut w W) (lf:Nat) (hlf:lf≤1048576) => by obtain ⟨n,e⟩:=(h.fut hW).right;exact exprParts_any x.d _ _ kd lf W e hlf);clear h;obtain ⟨xk,xp,xa,xr,xl,xd⟩:=x;unfold Lt.cs;go_enter Tryz.func86,Tryz.ntmps86;go_wp2_with fail;have hb:=heap_alloc_new w (.cells #[.int .i8 xk,.string xp,.slice A xa.length c,.int .i8 xr,.int .i8 xl.op,.string xl.t.v,.int .i8 xl.t.x.k,.int .i64 xl.t.x.n,.string xl.t.x.s,kl,.int .i8 xd.op,.string xd.t.v,.int .i8 xd.t.x.k,.int .i64 xd.t.x.n,.string xd.t.x.s,kd] 120);have hF:=Fut.alloc w (.cells #[.int .i8 xk,.string xp,.slice A xa.length c,.int .i8 xr,.int .i8 xl.op,.string xl.t.v,.int .i8 xl.t.x.k,.int .i64 xl.t.x.n,.string xl.t.x.s,kl,.int .i8 xd.op,.string xd.t.v,.int .i8 xd.t.x.k,.int .i64 xd.t.x.n,.string xd.t.x.s,kd] 120);obtain ⟨w1,hw1⟩:∃ W,w.alloc (.cells #[.int .i8 xk,.string xp,.slice A xa.length c,.int .i8 xr,.int .i8 xl.op,.string xl.t.v,.int .i8 xl.t.x.k,.int .i64 xl.t.x.n,.string xl.t.x.s,kl,.int .i8 xd.op,.string xd.t.v,.int .i8 xd.t.x.k,.int .i64 xd.t.x.n,.string xd.t.x.s,kd] 120)=W:=⟨_,rfl⟩
 rw [hw1] at hb hF ⊢;clear hw1;have FB:=Hh hF;clear hF;have y2:=cell_at hb 2 (.slice A xa.length c) rfl;have y4:=cell_at hb 4 (.int .i8 xl.op) rfl;have y5:=cell_at hb 5 (.string xl.t.v) rfl;have y6:=cell_at hb 6 (.int .i8 xl.t.x.k) rfl;have y7:=cell_at hb 7 (.int .i64 xl.t.x.n) rfl;have y8:=cell_at hb 8 (.string xl.t.x.s) rfl;have y9:=cell_at hb 9 kl rfl;have z0:=cell_at hb 10 (.int .i8 xd.op) rfl;have z1:=cell_at hb 11 (.string xd.t.v) rfl;have z2:=cell_at hb 12 (.int .i8 xd.t.x.k) rfl;have z3:=cell_at hb 13 (.int .i64 xd.t.x.n) rfl;have z4:=cell_at hb 14 (.string xd.t.x.s) rfl;have z5:=cell_at hb 15 kd rfl;clear hb;replace hcl:xa.length≤c:=hcl;have hwa:IntKind.i64.wrap (1+(xa.length:Int))=((1+xa.length:Nat):Int):=by rw [IntKind.wrap_i64];omega
 refine wp_graph 9 [.d,.d,.d,.d,.d,.d,.d,.d,.r (fun v w' => ∃ r:Nat,v = .int .i64 r∧(r=left+1∨(r=xl.size∧r≤left∧xl.depth≤65537)))] (by kernel_rfl) (by kernel_rfl) (by kernel_rfl) ?_;simp only [takS,Exs]
 iterate 8 apply Exists.intro
 iterate 2
  apply Run.valG (wanted_none rfl _)
  ·intro w1 h1 hk;go_simp;rfl
  simp only [actS]
 iterate 2
  apply Run.valG (wanted_none rfl _)
  ·intro w1 h1 hk;have q2:=h1.cell y2;have q4:=h1.cell y4;have q5:=h1.cell y5;have q6:=h1.cell y6;have q7:=h1.cell y7;have q8:=h1.cell y8;have q9:=h1.cell y9;have hg:=(Fut.drew _).trans h1;have hcw:=fun b o => Below.cell (p:=⟨b,o,none⟩) h1;go_simp;rfl
  simp only [actS]
 iterate 2
  apply Run.valG (wanted_none rfl _)
  ·intro w1 h1 hk;go_simp;rfl
  simp only [actS]
 apply Run.valG (wanted_none rfl _)
 ·intro w1 h1 hk;have q2:=h1.cell y2;have q4:=h1.cell y4;have q5:=h1.cell y5;have q6:=h1.cell y6;have q7:=h1.cell y7;have q8:=h1.cell y8;have q9:=h1.cell y9;have hg:=(Fut.drew _).trans h1;have hcw:=fun b o => Below.cell (p:=⟨b,o,none⟩) h1;go_simp;rfl
 simp only [actS];apply Run.valG (wanted_none rfl _)
 ·intro w1 h1 hk;go_simp;rfl
 simp only [actS];apply Run.callR (wanted_none rfl _) (by intro v w w' hf hs;exact hs) (fun _ _ => by go_simp;exact ⟨rfl,rfl⟩)
 ·intro w1 h1 hk;have q2:=h1.cell y2;have q4:=h1.cell y4;have q5:=h1.cell y5;have q6:=h1.cell y6;have q7:=h1.cell y7;have q8:=h1.cell y8;have q9:=h1.cell y9;have hg:=(Fut.drew _).trans h1;refine (HE1.out _ (FB.out.trans hg) left hleft).mono ?_;rintro e w' ⟨r,rfl,hr,hf⟩;exact ⟨_,rfl,hf,r,rfl,hr⟩
 intro v8;simp only [actS];apply Run.done;intro w2 h2 hk;obtain ⟨f8,_⟩:=hk;obtain ⟨r,rfl,hr⟩:=f8;have F2:=(Fut.drew _).trans h2;have FW:=Hh (FB.out.trans F2);have x0:=F2.cell z0;have x1:=F2.cell z1;have x2:=F2.cell z2;have x3:=F2.cell z3;have x4:=F2.cell z4;have x5:=F2.cell z5;clear y2 y4 y5 y6 y7 y8 y9 z0 z1 z2 z3 z4 z5 h2 F2;have hrl:r≤left+1:=by rcases hr with h|h <;> omega
 have hwb:IntKind.i64.wrap (1+(xa.length:Int)+r)=((1+xa.length+r:Nat):Int):=by rw [IntKind.wrap_i64];omega
 have hlw:IntKind.i64.wrap ((left:Int)+1)=((left+1:Nat):Int):=by rw [IntKind.wrap_i64];omega
 by_cases hov:1+xa.length+r > left
 ·have hovI:(1+(xa.length:Int)+r) > left:=by omega
  go_wp2;go_ret;exact ⟨left+1,by first|rfl|simp,.inl rfl,FW.out⟩
 ·have hovI:¬ (1+(xa.length:Int)+r) > left:=by omega
  have hr':=Hh (hr.resolve_left (by omega));replace hr:=Hh hr;have hcv:((left:Int) - (1+(xa.length:Int)+r))=(((left - (1+xa.length+r)):Nat):Int):=by omega
  have hsub:IntKind.i64.wrap ((left:Int) - (1+(xa.length:Int)+r))=((left - (1+xa.length+r):Nat):Int):=by rw [IntKind.wrap_i64];omega
  replace hcv:=Hh hcv;go_wp2_with fail
  try rw [hcv.out]
  refine (HE2.out _ FW.out (left - (1+xa.length+r)) (by omega)).mono ?_;rintro e w3 ⟨r2,rfl,hr2,f3⟩;have hr2l:r2≤left - (1+xa.length+r)+1:=by rcases hr2 with h|h <;> omega
  have hwc:IntKind.i64.wrap (1+(xa.length:Int)+r+r2)=((1+xa.length+r+r2:Nat):Int):=by rw [IntKind.wrap_i64];omega
  have F3:=Hh (FW.out.trans f3)
  have hres:Hid (1+xa.length+r+r2=left+1∨(1+xa.length+r+r2=1+xa.length+xl.size+xd.size∧1+xa.length+r+r2≤left∧xl.depth≤65537∧xd.depth≤65537)):=Hh (by
   have h9:=hr'.out;rcases hr2 with h|⟨h3,h4,h5⟩
   ·left;omega
   ·right;exact ⟨by omega,by omega,h9.2.2,h5⟩)
  clear f3 hr hr' hr2;go_wp2;go_ret;exact ⟨1+xa.length+r+r2,by first|rfl|simp,hres.out,F3.out⟩
theorem TwinE.only {α:Type} {sz:Nat} {e:TypeId} {z:List Value} {RE:Nat→World→List Value→α→Prop} {RM:World→List Value→Prop} {B:Nat} {w w':World} {v:Value} {xs:List α} {S:Nat→Prop}
    (h:TwinE sz e z RE RM B w v xs) (hO:Only S w w') (hS:∀ k,B≤k→¬ S k) (hE:∀ g cs x,B≤g→RE g w cs x→RE g w' cs x) (hM:∀ cs,RM w cs→RM w' cs):TwinE sz e z RE RM B w' v xs:=by
 obtain ⟨g,css,h1,h2,h3,h4,h5,h6⟩:=h;obtain ⟨arr,b1,b2⟩:=h4;exact ⟨g,css,h1,h2,h3,⟨arr,hO.keeps b1 (hS g h1),b2⟩,fun i x cs hx hc => ⟨(h5 i x cs hx hc).1,hE _ _ _ (by omega) (h5 i x cs hx hc).2⟩,fun cs hc => ⟨(h6 cs hc).1,hM _ (h6 cs hc).2⟩⟩
theorem TwinE.base {α:Type} {sz:Nat} {e:TypeId} {z:List Value} {RE:Nat→World→List Value→α→Prop} {RM:World→List Value→Prop} {B B':Nat} {w:World} {v:Value} {xs:List α}
    (h:TwinE sz e z RE RM B w v xs) (hB:B'≤B):TwinE sz e z RE RM B' w v xs:=by
 obtain ⟨g,css,h1,h2⟩:=h;exact ⟨g,css,by omega,h2⟩
theorem block_range {w:World} {b:Nat} {cs:List Value} {t:TypeId} (h:w.heap[b]?=some (.cells cs.toArray t (0,0))):w.rangeAt b 0 cs:=fun j v hj => by
 rw [Nat.zero_add];exact cell_at h j v (by simpa using hj)
def zEx:List Value:=[.int .i8 0,.string ⟨#[]⟩,.int .i8 0,.int .i64 0,.string ⟨#[]⟩,.slice none 0 0]
def mkEx:List Value:=[.int .i8 99,.string wordS,.int .i8 0,.int .i64 0,.string ⟨#[]⟩,.slice none 0 0]
theorem infoEx6:(Tryz.prog.info? 118).map (fun i => (i.zero,i.size,i.bytes))=some (some (.agg zEx.toArray),6,80):=by kernel_rfl
theorem infoExN:(Tryz.prog.info? 118).map (·.size)=some 6:=by kernel_rfl
theorem infoExs1:(Tryz.prog.info? 116).map (·.size)=some 1:=by kernel_rfl
def TwEx:Nat→Nat→World→List Value→Ex→Prop
 | 0,_,_,_,_ => False
 | h+1,g,w,cs,.mk op t kids => ∃ kv,cs=[.int .i8 op,.string t.v,.int .i8 t.x.k,.int .i64 t.x.n,.string t.x.s,kv]∧TwinE 6 118 zEx (TwEx h) (fun _ cs => cs=mkEx) g w kv kids
abbrev TwExs (h:Nat):Nat→World→Value→List Ex→Prop:=TwinE 6 118 zEx (TwEx h) (fun _ cs => cs=mkEx)
theorem TwEx.only {S:Nat→Prop}:∀ (h:Nat) {g:Nat} {w w':World} {cs:List Value} {x:Ex},TwEx h g w cs x→Only S w w'→(∀ k,g≤k→¬ S k)→TwEx h g w' cs x
 | 0,_,_,_,_,_,h,_,_ => h
 | h+1,g,w,w',cs,.mk op t kids,⟨kv,h1,h2⟩,hO,hS => ⟨kv,h1,h2.only hO hS (fun g' cs x hg hx => TwEx.only h hx hO fun k hk => hS k (by omega)) fun _ h => h⟩
theorem TwEx.keep {h g:Nat} {w w':World} {cs:List Value} {x:Ex} (hx:TwEx h g w cs x) (hf:Fut w w'):TwEx h g w' cs x:=TwEx.only (S:=fun _ => False) h hx (Only.fut hf) fun _ _ h => h
theorem TwEx.base:∀ (h:Nat) {g g':Nat} {w:World} {cs:List Value} {x:Ex},TwEx h g w cs x→g'≤g→TwEx h g' w cs x
 | 0,_,_,_,_,_,h,_ => h
 | h+1,_,_,_,_,.mk _ _ _,⟨kv,h1,h2⟩,hg => ⟨kv,h1,h2.base hg⟩
theorem TwExs.keep {h B:Nat} {w w':World} {v:Value} {xs:List Ex} (hx:TwExs h B w v xs) (hf:Fut w w'):TwExs h B w' v xs:=TwinE.fut (fun g _ _ _ _ hf hx => TwEx.keep hx hf) (fun _ _ _ _ h => h) hx hf
theorem size_kid:∀ {l:List Ex} {x:Ex},x ∈ l→x.size≤Ex.sizes l
 | y :: r,x,h => by
  unfold Ex.sizes;rcases List.mem_cons.1 h with e|h
  ·rw [e];omega
  ·have:=size_kid h;omega
theorem len_sizes:∀ l:List Ex,l.length≤Ex.sizes l
 | [] => Nat.zero_le _
 | y :: r => by
  have h1:=len_sizes r;have h2:1≤y.size:=by obtain ⟨_,_,_⟩:=y;unfold Ex.size;omega
  unfold Ex.sizes;rw [List.length_cons];omega
set_option maxHeartbeats 1000000 in
theorem markEx_any (w:World) (hP:Pows w):Calls Tryz.prog 107 #[.int .i64 777777] w fun e w' => e = .returned (.agg mkEx.toArray)∧Fut w w':=by
 have HW:=Hh (fun w hP => word_any' w hP);have hb0:=Hh (blk_zero w zEx 118 (by decide));have f0:=Fut.alloc w (.cells zEx.toArray 118);unfold mkEx;generalize wordS=t at HW ⊢;go_enter Tryz.func107,Tryz.ntmps107;go_wp2_with fail;refine (HW.out _ (hP.fut f0)).mono ?_;rintro e w1 ⟨rfl,h1⟩;have hb1:=Hh (hb0.out.fut h1);have F1:=Hh (f0.trans h1);clear h1 f0;have hi3:=infoExN;go_wp2_with (first|(show wpList _ _ _ (Oper.mk _ (Op.store _ _ _) _ _ _ _ :: _) _ _;refine wpList_storeK [.int .i8 99,.string t,.int .i8 0,.int .i64 0,.string ⟨#[]⟩,.slice none 0 0] rfl _ _ _ rfl rfl rfl hb1.out (fun c hc => (by cases hc)) rfl (by decide) rfl (by decide) hi3 (by intro v hv;simp only [List.mem_cons,List.not_mem_nil,or_false] at hv;rcases hv with (rfl|rfl|rfl|rfl|rfl|rfl) <;> rfl) ?_;intro w2 hB2 hO2));have hb2:=blk_one hB2 rfl;have OW:Fut w w2:=((Only.fut (S:=fun k => k=w.heap.size) F1.out).trans hO2).toFut fun k hk => by omega
 refine bodyPost_ret (v:=.agg #[.int .i8 99,.string t,.int .i8 0,.int .i64 0,.string ⟨#[]⟩,.slice none 0 0]) (results_cell_row rfl _ _ w.heap.size _ #[.int .i8 99,.string t,.int .i8 0,.int .i64 0,.string ⟨#[]⟩,.slice none 0 0] _ _ rfl hb2 Tryz.underlying118 rfl hi3) rfl ?_;exact ⟨rfl,OW⟩
def TwExsOk (h:Nat):Prop:=∀ (xs:List Ex) (A:Option Addr) (c M:Nat) (w:World),Pows w→SlRep 6 M (RE h) w (.slice A xs.length c) xs→Ex.sizes xs≤100000000 →
 Calls Tryz.prog 291 #[.slice A xs.length c] w fun e w' => ∃ v,e = .returned v∧TwExs h w.heap.size w' v xs∧Fut w w'
set_option maxHeartbeats 2000000 in
theorem twinExpr_of (h:Nat) (IH:TwExsOk h) (x:Ex) (cs:List Value) (w:World) (hP:Pows w) (hx:RE (h+1) w cs x) (hs:x.size≤100000000) :
    Calls Tryz.prog 258 #[.agg cs.toArray] w fun e w' => ∃ cs',e = .returned (.agg cs'.toArray)∧cs'.length=6∧(∀ v ∈ cs',v.oneCell'=true)∧TwEx (h+1) w.heap.size w' cs' x∧Fut w w':=by
 obtain ⟨op,⟨tv,⟨xk,xn,xs⟩⟩,ks⟩:=x;obtain ⟨kv,rfl,_,_,hk⟩:=hx;obtain ⟨A,c,rfl,_,_⟩:=hk.form;have hsz:Ex.sizes ks≤100000000:=by unfold Ex.size at hs;omega
 dsimp only at *;have hbx:=heap_alloc_new w (.cells #[.int .i8 op,.string tv,.int .i8 xk,.int .i64 xn,.string xs,.slice A ks.length c] 118);have f0:=Fut.alloc w (.cells #[.int .i8 op,.string tv,.int .i8 xk,.int .i64 xn,.string xs,.slice A ks.length c] 118);have hs1:(w.alloc (.cells #[.int .i8 op,.string tv,.int .i8 xk,.int .i64 xn,.string xs,.slice A ks.length c] 118)).heap.size=w.heap.size+1:=by simp
 have hz:=blk_zero (w.alloc (.cells #[.int .i8 op,.string tv,.int .i8 xk,.int .i64 xn,.string xs,.slice A ks.length c] 118)) zEx 118 (by decide);have f1:=Fut.alloc (w.alloc (.cells #[.int .i8 op,.string tv,.int .i8 xk,.int .i64 xn,.string xs,.slice A ks.length c] 118)) (.cells zEx.toArray 118);rw [hs1] at hz;have f01:=f0.trans f1;have hbx1:=f1.block hbx;have c5:=cell_at hbx1 5 _ rfl;have HK:=Hh (IH ks A c _ _ (hP.fut f01) (hk.fut (RE.stays h) f01) hsz);have F01:=Hh f01;have HBX:=Hh hbx1;have HZ:=Hh hz;clear f0 f1 f01 hbx hbx1 hz hs1 hk IH hP hs hsz;go_enter Tryz.func258,Tryz.ntmps258;go_wp2_with fail;refine HK.out.mono ?_;rintro e w2 ⟨v,rfl,ht,f2⟩;obtain ⟨g,hg,rfl,_⟩:=TwinE.mark ht rfl (by decide);have hzz:((w.alloc (.cells #[.int .i8 op,.string tv,.int .i8 xk,.int .i64 xn,.string xs,.slice A ks.length c] 118)).alloc (.cells zEx.toArray 118)).heap.size=w.heap.size+2:=by simp
 have hb2:=f2.block HBX.out;have d5:=cell_at hb2 5 _ rfl;have e5:=free_at hb2 5;have hz2:=HZ.out.fut f2;obtain ⟨w3,hw3⟩:∃ W,w2.setCell ⟨w.heap.size,5,none⟩ (.slice (some ⟨g,0,none⟩) ks.length (ks.length+1))=W:=⟨_,rfl⟩
 have hb3:w3.heap[w.heap.size]?=some (.cells #[.int .i8 op,.string tv,.int .i8 xk,.int .i64 xn,.string xs,.slice (some ⟨g,0,none⟩) ks.length (ks.length+1)] 118 (0,0)):=by rw [← hw3];simp [World.setCell,Array.getElem?_modify,hb2]
 have hz3:=hz2.far (p:=⟨w.heap.size,5,none⟩) (by simp) (.slice (some ⟨g,0,none⟩) ks.length (ks.length+1));have O3:Only (fun k => k=w.heap.size) w2 w3:=by rw [← hw3];exact Only.set _ _ rfl
 rw [hw3] at hz3;have hrg:=Hh (block_range hb3);have HZ3:=Hh hz3;have hw3':=Hh hw3;have HO3:=Hh (And.intro (Only.fut (S:=fun k => w.heap.size≤k∧k<w.heap.size+2) (F01.out.trans f2)) (O3.mono (S':=fun k => w.heap.size≤k∧k<w.heap.size+2) fun k _ e => by omega));have HT:=Hh (show TwExs h (w.heap.size+2) w3 (.slice (some ⟨g,0,none⟩) ks.length (ks.length+1)) ks from (TwinE.only (S:=fun k => k=w.heap.size) (B:=w.heap.size+2) (by rw [← hzz];exact ht) O3 (fun k hk e => by omega) (fun g cs x hg hx => hx.only h O3 fun k hk e => by omega) fun _ h => h));have hi3:=infoExN;have hi1:=infoExs1
 have hone:∀ v ∈ ([.int .i8 op,.string tv,.int .i8 xk,.int .i64 xn,.string xs,.slice (some ⟨g,0,none⟩) ks.length (ks.length+1)]:List Value),v.oneCell'=true:=fun v hv => by
  simp only [List.mem_cons,List.not_mem_nil,or_false] at hv;rcases hv with (rfl|rfl|rfl|rfl|rfl|rfl) <;> rfl
 clear hw3 hz3 hz2 hb3 hb2 O3 ht f2 hg c5 HK hzz;go_wp2_with (first|(show wpList _ _ _ (Oper.mk _ (Op.store 116 _ _) _ _ _ _ :: _) _ _;refine wpList_store_1 (wanted_none rfl _) _ _ rfl rfl rfl hi1 rfl d5 e5 hw3'.out ?_)|(show wpList _ _ _ (Oper.mk _ (Op.load 118 _) _ _ _ _ :: _) _ _;refine wpList_load_mid rfl _ _ rfl w.heap.size 0 rfl [.int .i8 op,.string tv,.int .i8 xk,.int .i64 xn,.string xs,.slice (some ⟨g,0,none⟩) ks.length (ks.length+1)] _ hrg.out Tryz.underlying118 rfl hi3 ?_)|(show wpList _ _ _ (Oper.mk _ (Op.store 118 _ _) _ _ _ _ :: _) _ _;refine wpList_storeK [.int .i8 op,.string tv,.int .i8 xk,.int .i64 xn,.string xs,.slice (some ⟨g,0,none⟩) ks.length (ks.length+1)] rfl _ _ _ rfl rfl rfl HZ3.out (fun c hc => (by cases hc)) rfl (by decide) rfl (by decide) hi3 hone ?_;intro w4 hB4 hO4));have hb4:=blk_one hB4 rfl;have OW:Fut w w4:=((HO3.out.1.trans HO3.out.2).trans (hO4.mono (S':=fun k => w.heap.size≤k∧k<w.heap.size+2) fun k _ e => by omega)).toFut fun k hk => hk.1;refine bodyPost_ret (v:=.agg #[.int .i8 op,.string tv,.int .i8 xk,.int .i64 xn,.string xs,.slice (some ⟨g,0,none⟩) ks.length (ks.length+1)]) (results_cell_row rfl _ _ (w.heap.size+1) _ #[.int .i8 op,.string tv,.int .i8 xk,.int .i64 xn,.string xs,.slice (some ⟨g,0,none⟩) ks.length (ks.length+1)] _ _ rfl hb4 Tryz.underlying118 rfl hi3) rfl ?_;exact ⟨[.int .i8 op,.string tv,.int .i8 xk,.int .i64 xn,.string xs,.slice (some ⟨g,0,none⟩) ks.length (ks.length+1)],rfl,rfl,hone,⟨_,rfl,(TwinE.only (S:=fun k => k=w.heap.size+1) HT.out hO4 (fun k hk e => by omega) (fun g cs x hg hx => hx.only h hO4 fun k hk e => by omega) fun _ h => h).base (by omega)⟩,OW⟩
set_option maxHeartbeats 2000000 in
theorem twinExs_of (h:Nat) (HX:∀ (x:Ex) (cs:List Value) (w:World),Pows w→RE h w cs x→x.size≤100000000 →
    Calls Tryz.prog 258 #[.agg cs.toArray] w fun e w' => ∃ cs',e = .returned (.agg cs'.toArray)∧cs'.length=6∧(∀ v ∈ cs',v.oneCell'=true)∧TwEx h w.heap.size w' cs' x∧Fut w w'):TwExsOk h:=by
 intro xs A c M w hP hx hs;have hn:xs.length≤100000000:=Nat.le_trans (len_sizes xs) hs;obtain ⟨i0,hi0,hz0,hz1,hz2⟩:=info_parts infoEx6
 have hmk:∀ W:World,(Instr.makeSlice 116 (.int .i64 ((xs.length:Int)+1)) (.int .i64 ((xs.length:Int)+1))).run Tryz.prog W =
     .ok (.slice (some ⟨W.heap.size,0,none⟩) (xs.length+1) (xs.length+1)) (W.alloc (.cells (madeCells zEx.toArray ((xs.length+1) * 6)) 118)):=fun W => by
  have:=run_make_rowN (P:=Tryz.prog) 116 118 i0 _ Tryz.underlying116 hi0 hz0 .i64 .i64 (xs.length+1) (xs.length+1) (Nat.le_refl _) (by rw [hz2];omega) (by omega) W;rw [hz1] at this;exact this
 have HB0:=Hh (blk_madeK w zEx (xs.length+1) 118 (by decide));have F0:=Hh (Fut.alloc w (.cells (madeCells zEx.toArray ((xs.length+1) * 6)) 118));have H:=Hh hx;have HP:=Hh hP;have HXX:=Hh HX;have HS:=Hh (fun x (hx:x ∈ xs) => Nat.le_trans (size_kid hx) hs);have hxl:xs.length≤9223372036854775807:=by omega
 have hiN:=infoExN;clear hx hP HX hi0 hz0 hz1 hz2 hs;go_enter Tryz.func291,Tryz.ntmps291;go_wp2;go_loopw [4] (fun i wr => ∃ (k:Nat) (css:List (List Value)),k≤xs.length∧i = .int .i64 k∧css.length=k∧Hid (∀ c ∈ css,c.length=6)∧Hid (BlkF wr w.heap.size 118 ((xs.length+1) * 6) (cellsAt css zEx 6))∧Hid (∀ (j:Nat) (x:Ex) (cs:List Value),xs[j]?=some x→css[j]?=some cs→TwEx h (w.heap.size+1) wr cs x)∧Hid (Fut w wr)) (fun i _ => xs.length - (intOf i).toNat)
 case atStart => exact ⟨0,[],Nat.zero_le _,rfl,rfl,Hh (fun c hc => by cases hc),HB0,Hh (fun j x cs _ hc => by simp at hc),F0⟩
 case round =>
  obtain ⟨k,css,hk,rfl,hcl,hall,hB,hE,hF⟩:=hrel;obtain ⟨wA,rfl⟩:∃ x,x=wr:=⟨_,rfl⟩
  have hsz:w.heap.size+1≤wA.heap.size:=hB.out.lt
  by_cases hlt:k<xs.length
  ·have hltI:(k:Int)<xs.length:=by omega
   have e0:(0:Int)≤k∧(k:Int)<xs.length:=by omega
   have e1:(0:Int)≤k∧(k:Int)<xs.length+1:=by omega
   obtain ⟨b',off,cs,rfl,hr,hl6,hcs⟩:=sl_row (H.out.fut (RE.stays h) hF.out) hlt;have hzx:=HS.out _ (List.getElem_mem hlt);have hxk:xs[k]?=some xs[k]:=List.getElem?_eq_getElem hlt;generalize xs[k]=z at *;have HC:=Hh (HXX.out z cs wA (HP.out.fut hF.out) hr hzx);have hcs9:=Hh hcs;have hxk9:=Hh hxk;have hi6:(Tryz.prog.info? 118).map (·.size)=some cs.length:=by rw [hl6];exact hiN
   clear hcs hr hzx hxk;go_wp2_with (first|(show wpList _ _ _ (Oper.mk _ (Op.load _ _) _ _ _ _ :: _) _ _;refine wpList_load_mid rfl _ _ rfl b' (off+k * 6) rfl cs _ hcs9.out Tryz.underlying118 rfl hi6 ?_));refine HC.out.mono ?_;rintro e w1 ⟨cs',rfl,hl,hone,ht,f1⟩;have hB1:=Hh (hB.out.fut f1);have hF1:=Hh (hF.out.trans f1);have hT1:=Hh (TwEx.base h ht hsz);have hE1:=Hh (fun j x cs hx hc => (hE.out j x cs hx hc).keep f1);clear ht f1 hB hF hE HC;go_wp2_with (first|(show wpList _ _ _ (Oper.mk _ (Op.store _ _ _) _ _ _ _ :: _) _ _;refine wpList_storeK cs' rfl _ _ _ rfl rfl rfl hB1.out hall.out (by rw [hcl]) (by rw [hcl];omega) hl (by decide) hiN hone ?_;intro w2 hB2 hO2));have HF2:=Hh (((Only.fut (S:=fun k => k=w.heap.size) hF1.out).trans hO2).toFut fun k hk => by omega)
   have HE2:=Hh (show ∀ (j:Nat) (x:Ex) (cs:List Value),xs[j]?=some x→(css++[cs'])[j]?=some cs→TwEx h (w.heap.size+1) w2 cs x from fun j x cs hx hc => by
    rcases Nat.lt_or_ge j css.length with hj|hj
    ·rw [List.getElem?_append_left hj] at hc;exact (hE1.out j x cs hx hc).only h hO2 fun k hk e => by omega
    ·have hj':j=k:=by
       have:=(List.getElem?_eq_some_iff.1 hc).1;simp at this;omega
     subst hj';rw [List.getElem?_append_right hj,hcl,Nat.sub_self] at hc;obtain rfl:=Option.some.inj hc;rw [hxk9.out] at hx;obtain rfl:=Option.some.inj hx;exact hT1.out.only h hO2 fun k hk e => by omega)
   have HA2:=Hh (show ∀ c ∈ css++[cs'],c.length=6 from fun c hc => by
    rcases List.mem_append.1 hc with q|q
    ·exact hall.out c q
    ·rw [List.mem_singleton] at q;rw [q];exact hl)
   have HB2:=Hh hB2;have HL2:=Hh (show (css++[cs']).length=k+1 by rw [List.length_append,hcl];rfl);clear hB2 hO2 hB1 hF1 hT1 hE1 hall;go_wp2;go_roundw
   case rel => exact ⟨k+1,css++[cs'],by omega,by go_num,HL2.out,HA2,HB2,HE2,HF2⟩
   case measure => simp [intOf] <;> omega
  ·obtain rfl:k=xs.length:=by omega
   have hMk:=Hh (markEx_any wA (HP.out.fut hF.out));have e1:(0:Int)≤xs.length∧(xs.length:Int)<xs.length+1:=by omega
   have hone:∀ v ∈ mkEx,v.oneCell'=true:=fun v hv => by
    unfold mkEx at hv;simp only [List.mem_cons,List.not_mem_nil,or_false] at hv;rcases hv with (rfl|rfl|rfl|rfl|rfl|rfl) <;> rfl
   go_wp2_with fail;refine hMk.out.mono ?_;rintro e w1 ⟨rfl,f1⟩;have hB1:=Hh (hB.out.fut f1);have hF1:=Hh (hF.out.trans f1);have hE1:=Hh (fun j x cs hx hc => (hE.out j x cs hx hc).keep f1);clear f1 hB hF hMk hE;go_wp2_with (first|(show wpList _ _ _ (Oper.mk _ (Op.store _ _ _) _ _ _ _ :: _) _ _;refine wpList_storeK mkEx rfl _ _ _ rfl rfl rfl hB1.out hall.out (by rw [hcl]) (by rw [hcl];omega) rfl (by decide) hiN hone ?_;intro w2 hB2 hO2));have HF2:=Hh (((Only.fut (S:=fun k => k=w.heap.size) hF1.out).trans hO2).toFut fun k hk => by omega);have HB2:=Hh hB2;have HE2:=Hh (fun j x cs hx hc => (hE1.out j x cs hx hc).only h hO2 fun k hk e => by omega);clear hB2 hO2 hB1 hF1 hE1;go_wp2;go_ret;refine ⟨_,rfl,⟨w.heap.size,css++[mkEx],Nat.le_refl _,rfl,by rw [List.length_append,hcl];rfl,HB2.out,fun i x cs hx hc => ?_,fun cs hc => ?_⟩,HF2.out⟩
   ·have hi:i<xs.length:=(List.getElem?_eq_some_iff.1 hx).1;rw [List.getElem?_append_left (by omega)] at hc;exact ⟨hall.out _ (List.mem_of_getElem? hc),HE2.out i x cs hx hc⟩
   ·rw [List.getElem?_append_right (by omega),hcl,Nat.sub_self] at hc;obtain rfl:=Option.some.inj hc;exact ⟨rfl,rfl⟩
theorem twinExs_any:∀ h,TwExsOk h
 | 0 => twinExs_of 0 fun x cs w _ hx => hx.elim
 | h+1 => twinExs_of (h+1) fun x cs w hP hx hs => twinExpr_of h (twinExs_any h) x cs w hP hx hs
theorem twinExpr_any (x:Ex) (cs:List Value) (w:World) (hP:Pows w) (h:Nat) (hx:RE h w cs x) (hs:x.size≤100000000) :
    Calls Tryz.prog 258 #[.agg cs.toArray] w fun e w' => ∃ cs',e = .returned (.agg cs'.toArray)∧cs'.length=6∧(∀ v ∈ cs',v.oneCell'=true)∧TwEx h w.heap.size w' cs' x∧Fut w w':=by
 cases h with
 | zero => exact hx.elim
 | succ h => exact twinExpr_of h (twinExs_any h) x cs w hP hx hs
set_option maxHeartbeats 1000000 in
theorem isEx_any (w:World) (hP:Pows w):Calls Tryz.prog 221 #[.agg mkEx.toArray,.int .i64 777777] w fun e w' => e = .returned (.bool true)∧Fut w w':=by
 have HP:=Hh hP;have HW:=Hh (fun w hP => word_any' w hP);unfold mkEx;generalize wordS=t at HW ⊢;have hbx:=heap_alloc_new w (.cells #[.int .i8 99,.string t,.int .i8 0,.int .i64 0,.string ⟨#[]⟩,.slice none 0 0] 118);have c0:=cell_at hbx 0 _ rfl;have c1:=cell_at hbx 1 _ rfl;have c2:=cell_at hbx 2 _ rfl;have c3:=cell_at hbx 3 _ rfl;have c4:=cell_at hbx 4 _ rfl;have c5:=cell_at hbx 5 _ rfl;clear hbx;go_enter Tryz.func221,Tryz.ntmps221;go_wp2;refine wp_graph 18 [.d,.d,.d,.d,.d,.d,.d,.d,.d,.d,.d,.d,.d,.d,.d,.d,.d,.d] (by kernel_rfl) (by kernel_rfl) (by kernel_rfl) ?_;simp only [takS,Exs]
 iterate 18 apply Exists.intro
 apply Run.valG (wanted_none rfl _)
 ·intro w1 h1 hk;go_simp;rfl
 simp only [actS];apply Run.valG (wanted_none rfl _)
 ·intro w1 h1 hk;have q0:=h1.cell c0;have q1:=h1.cell c1;have q2:=h1.cell c2;have q3:=h1.cell c3;have q4:=h1.cell c4;have q5:=h1.cell c5;have hcw:=fun b o => Below.cell (p:=⟨b,o,none⟩) h1;go_simp;rfl
 simp only [actS]
 iterate 2
  apply Run.valG (wanted_none rfl _)
  ·intro w1 h1 hk;go_simp;rfl
  simp only [actS]
 apply Run.valG (by go_simp)
 ·intro w1 h1 hk;go_simp;rfl
 simp only [actS];apply Run.valG (by go_simp)
 ·intro w1 h1 hk;have q0:=h1.cell c0;have q1:=h1.cell c1;have q2:=h1.cell c2;have q3:=h1.cell c3;have q4:=h1.cell c4;have q5:=h1.cell c5;have hcw:=fun b o => Below.cell (p:=⟨b,o,none⟩) h1;go_simp;rfl
 simp only [actS];apply Run.valG (by go_simp)
 ·intro w1 h1 hk;go_simp;rfl
 simp only [actS];apply Run.call (by go_simp) (fun _ _ => by go_simp;exact ⟨rfl,rfl⟩)
 ·intro w1 h1 hk;have q0:=h1.cell c0;have q1:=h1.cell c1;have q2:=h1.cell c2;have q3:=h1.cell c3;have q4:=h1.cell c4;have q5:=h1.cell c5;exact HW.out _ (HP.out.fut (((Fut.alloc _ _).trans (Fut.drew _)).trans h1))
 simp only [actS];apply Run.valG (by go_simp)
 ·intro w1 h1 hk;have q0:=h1.cell c0;have q1:=h1.cell c1;have q2:=h1.cell c2;have q3:=h1.cell c3;have q4:=h1.cell c4;have q5:=h1.cell c5;have hcw:=fun b o => Below.cell (p:=⟨b,o,none⟩) h1;go_simp;rfl
 simp only [actS];apply Run.valG (by go_simp)
 ·intro w1 h1 hk;go_simp;rfl
 simp only [actS]
 iterate 2
  apply Run.valG (wanted_none rfl _)
  ·intro w1 h1 hk;go_simp;rfl
  simp only [actS]
 apply Run.valG (by go_simp)
 ·intro w1 h1 hk;go_simp;rfl
 simp only [actS]
 iterate 2
  apply Run.valG (by go_simp)
  ·intro w1 h1 hk;have q0:=h1.cell c0;have q1:=h1.cell c1;have q2:=h1.cell c2;have q3:=h1.cell c3;have q4:=h1.cell c4;have q5:=h1.cell c5;have hcw:=fun b o => Below.cell (p:=⟨b,o,none⟩) h1;go_simp;rfl
  simp only [actS]
 apply Run.valG (by go_simp)
 ·intro w1 h1 hk;go_simp;rfl
 simp only [actS]
 iterate 2
  apply Run.valG (wanted_none rfl _)
  ·intro w1 h1 hk;go_simp;rfl
  simp only [actS]
 apply Run.done;intro w2 h2 hk;clear hk;go_wp2;go_ret;exact ⟨by first|rfl|simp,(Fut.alloc _ _).trans ((Fut.drew _).trans h2)⟩
def LeftExsOk (h:Nat):Prop:=∀ (xs:List Ex) (t a:Value) (B M:Nat) (w:World),Pows w→TwExs h B w t xs→SlRep 6 M (RE h) w a xs→Ex.sizes xs≤100000000 →
 Calls Tryz.prog 307 #[t,a] w fun e w' => e = .returned (.bool true)∧Fut w w'
set_option maxHeartbeats 2000000 in
theorem leftExpr_of (h:Nat) (IH:LeftExsOk h) (x:Ex) (ct cs:List Value) (B:Nat) (w:World) (hP:Pows w) (ht:TwEx (h+1) B w ct x) (hx:RE (h+1) w cs x) (hs:x.size≤100000000) :
    Calls Tryz.prog 269 #[.agg ct.toArray,.agg cs.toArray] w fun e w' => e = .returned (.bool true)∧Fut w w':=by
 obtain ⟨op,⟨tv,⟨xk,xn,xs⟩⟩,ks⟩:=x;obtain ⟨kv,rfl,_,_,hk⟩:=hx;obtain ⟨tk,rfl,htk⟩:=ht;obtain ⟨A,c,rfl,_,_⟩:=hk.form;obtain ⟨g,_,rfl,_⟩:=TwinE.mark htk rfl (by decide);have hsz:Ex.sizes ks≤100000000:=by unfold Ex.size at hs;omega
 dsimp only at *;have f0:=Fut.alloc w (.cells #[.int .i8 op,.string tv,.int .i8 xk,.int .i64 xn,.string xs,.slice (some ⟨g,0,none⟩) ks.length (ks.length+1)] 118);have hb1:=heap_alloc_new w (.cells #[.int .i8 op,.string tv,.int .i8 xk,.int .i64 xn,.string xs,.slice (some ⟨g,0,none⟩) ks.length (ks.length+1)] 118);have hs1:(w.alloc (.cells #[.int .i8 op,.string tv,.int .i8 xk,.int .i64 xn,.string xs,.slice (some ⟨g,0,none⟩) ks.length (ks.length+1)] 118)).heap.size=w.heap.size+1:=by simp
 have f1:=Fut.alloc (w.alloc (.cells #[.int .i8 op,.string tv,.int .i8 xk,.int .i64 xn,.string xs,.slice (some ⟨g,0,none⟩) ks.length (ks.length+1)] 118)) (.cells #[.int .i8 op,.string tv,.int .i8 xk,.int .i64 xn,.string xs,.slice A ks.length c] 118);have hb2:=heap_alloc_new (w.alloc (.cells #[.int .i8 op,.string tv,.int .i8 xk,.int .i64 xn,.string xs,.slice (some ⟨g,0,none⟩) ks.length (ks.length+1)] 118)) (.cells #[.int .i8 op,.string tv,.int .i8 xk,.int .i64 xn,.string xs,.slice A ks.length c] 118);rw [hs1] at hb2;have hb11:=f1.block hb1;have f01:=f0.trans f1;have HK:=Hh (IH ks _ _ B _ _ (hP.fut f01) (TwExs.keep htk f01) (hk.fut (RE.stays h) f01) hsz);have F01:=Hh f01;have c0:=cell_at hb11 0 _ rfl;have c1:=cell_at hb11 1 _ rfl;have c2:=cell_at hb11 2 _ rfl;have c3:=cell_at hb11 3 _ rfl;have c4:=cell_at hb11 4 _ rfl;have c5:=cell_at hb11 5 _ rfl;have d0:=cell_at hb2 0 _ rfl;have d1:=cell_at hb2 1 _ rfl;have d2:=cell_at hb2 2 _ rfl;have d3:=cell_at hb2 3 _ rfl;have d4:=cell_at hb2 4 _ rfl;have d5:=cell_at hb2 5 _ rfl;clear f0 f1 f01 hb1 hb2 hb11 hs1 hk htk IH hP hs hsz;go_enter Tryz.func269,Tryz.ntmps269;go_wp2_with fail;refine HK.out.mono ?_;rintro e w2 ⟨rfl,f2⟩;have F2:=F01.out.trans f2;clear f2 c0 c1 c2 c3 c4 c5 d0 d1 d2 d3 d4 d5;go_wp2;go_ret;exact ⟨rfl,F2⟩
theorem TwinE.row {α:Type} {sz:Nat} {e:TypeId} {z:List Value} {RE:Nat→World→List Value→α→Prop} {RM:World→List Value→Prop} {B:Nat} {w:World} {v:Value} {xs:List α} (h:TwinE sz e z RE RM B w v xs) {k:Nat} (hk:k<xs.length) :
    ∃ g cs,B≤g∧v = .slice (some ⟨g,0,none⟩) xs.length (xs.length+1)∧cs.length=sz∧RE (g+1) w cs xs[k]∧∀ j u,cs[j]?=some u→w.cell? ⟨g,k * sz+j,none⟩=some u:=by
 obtain ⟨g,css,h1,h2,h3,h4,h5,h6⟩:=h;have hc:css[k]?=some (css[k]'(by omega)):=List.getElem?_eq_getElem (by omega);obtain ⟨hl,hr⟩:=h5 k _ _ (List.getElem?_eq_getElem hk) hc;refine ⟨g,_,h1,h2,hl,hr,fun j u hj => ?_⟩;have hjl:j<sz:=by rw [← hl];exact (List.getElem?_eq_some_iff.1 hj).1
 have hm:(k+1) * sz≤(xs.length+1) * sz:=Nat.mul_le_mul_right _ (by omega);rw [Nat.add_mul] at hm;rw [h4.cell (by omega),cellsAt_get hc hj hjl]
set_option maxHeartbeats 2000000 in
theorem leftExs_of (h:Nat) (HX:∀ (x:Ex) (ct cs:List Value) (B:Nat) (w:World),Pows w→TwEx h B w ct x→RE h w cs x→x.size≤100000000 →
    Calls Tryz.prog 269 #[.agg ct.toArray,.agg cs.toArray] w fun e w' => e = .returned (.bool true)∧Fut w w'):LeftExsOk h:=by
 intro xs t a B M w hP ht ha hs;have hn:xs.length≤100000000:=Nat.le_trans (len_sizes xs) hs;obtain ⟨A,c,rfl,_,_⟩:=ha.form;obtain ⟨g,hg,rfl,hmk⟩:=TwinE.mark ht rfl (by decide);have HT:=Hh ht;have HA:=Hh ha;have HP:=Hh hP;have HXX:=Hh HX;have HS:=Hh (fun x (hx:x ∈ xs) => Nat.le_trans (size_kid hx) hs);have HMK:=Hh hmk;have HI:=Hh (fun W hW => isEx_any W hW);have hxl:xs.length≤9223372036854775807:=by omega
 have hiN:=infoExN;clear ht ha hP HX hmk hs;go_enter Tryz.func307,Tryz.ntmps307;go_wp2;go_loopw [5] (fun i wr => ∃ k:Nat,k≤xs.length∧i = .int .i64 k∧Hid (Fut w wr)) (fun i _ => xs.length - (intOf i).toNat)
 case atStart => exact ⟨0,Nat.zero_le _,rfl,Hh (Fut.refl _)⟩
 case round =>
  obtain ⟨k,hk,rfl,hF⟩:=hrel
  by_cases hlt:k<xs.length
  ·have hltI:(k:Int)<xs.length:=by omega
   have e0:(0:Int)≤k∧(k:Int)<xs.length:=by omega
   obtain ⟨b1,o1,cs1,rfl,hr1,_,hc1⟩:=sl_row HA.out hlt;obtain ⟨g',cs2,_,hge,_,hr2,hc2⟩:=TwinE.row HT.out hlt;injection hge with hge _ _
   injection hge with hge
   injection hge with hge _ _
   subst hge;have hzx:=HS.out _ (List.getElem_mem hlt);generalize xs[k]=z at *;have hr1':=Hh hr1;have hr2':=Hh hr2;obtain ⟨m,op,⟨tv,⟨xk,xn,xs'⟩⟩,ks,A',c',rfl,rfl,rfl,_,_,_⟩:=ex_form hr1;obtain ⟨tk,rfl,htk⟩:=hr2;obtain ⟨g2,_,rfl,_⟩:=TwinE.mark htk rfl (by decide);dsimp only at *;have FW:=hF.out;have s0:=FW.cell (show w.cell? ⟨b1,o1+k * 6,none⟩=some _ from hc1 0 _ rfl);have s1:=FW.cell (show w.cell? ⟨b1,o1+k * 6+1,none⟩=some _ from hc1 1 _ rfl);have s2:=FW.cell (show w.cell? ⟨b1,o1+k * 6+2,none⟩=some _ from hc1 2 _ rfl);have s3:=FW.cell (show w.cell? ⟨b1,o1+k * 6+3,none⟩=some _ from hc1 3 _ rfl);have s4:=FW.cell (show w.cell? ⟨b1,o1+k * 6+4,none⟩=some _ from hc1 4 _ rfl);have s5:=FW.cell (show w.cell? ⟨b1,o1+k * 6+5,none⟩=some _ from hc1 5 _ rfl);have t0:=FW.cell (show w.cell? ⟨g,k * 6,none⟩=some _ from hc2 0 _ rfl);have t1:=FW.cell (show w.cell? ⟨g,k * 6+1,none⟩=some _ from hc2 1 _ rfl);have t2:=FW.cell (show w.cell? ⟨g,k * 6+2,none⟩=some _ from hc2 2 _ rfl);have t3:=FW.cell (show w.cell? ⟨g,k * 6+3,none⟩=some _ from hc2 3 _ rfl);have t4:=FW.cell (show w.cell? ⟨g,k * 6+4,none⟩=some _ from hc2 4 _ rfl);have t5:=FW.cell (show w.cell? ⟨g,k * 6+5,none⟩=some _ from hc2 5 _ rfl);have HC:=Hh (fun W (hW:Fut w W) => HXX.out _ _ _ _ W (HP.out.fut hW) (hr2'.out.keep hW) (RE.stays _ _ _ _ _ hW hr1'.out) hzx);clear FW hc1 hc2 hr1 htk hzx hr1' hr2';go_wp2;refine wp_graph 10 [.d,.d,.d,.d,.d,.d,.d,.d,.d,.d] (by kernel_rfl) (by kernel_rfl) (by kernel_rfl) ?_;simp only [takS,Exs]
   iterate 10 apply Exists.intro
   iterate 3
    apply Run.valG (wanted_none rfl _)
    ·intro w1 h1 hk;go_simp;rfl
    simp only [actS]
   apply Run.valG (wanted_none rfl _)
   ·intro w1 h1 hk;have r0:=h1.cell s0;have r1:=h1.cell s1;have r2:=h1.cell s2;have r3:=h1.cell s3;have r4:=h1.cell s4;have r5:=h1.cell s5;have p0:=h1.cell t0;have p1:=h1.cell t1;have p2:=h1.cell t2;have p3:=h1.cell t3;have p4:=h1.cell t4;have p5:=h1.cell t5;have hcw:=fun b o => Below.cell (p:=⟨b,o,none⟩) h1;go_simp;rfl
   simp only [actS]
   iterate 3
    apply Run.valG (wanted_none rfl _)
    ·intro w1 h1 hk;go_simp;rfl
    simp only [actS]
   apply Run.valG (wanted_none rfl _)
   ·intro w1 h1 hk;have r0:=h1.cell s0;have r1:=h1.cell s1;have r2:=h1.cell s2;have r3:=h1.cell s3;have r4:=h1.cell s4;have r5:=h1.cell s5;have p0:=h1.cell t0;have p1:=h1.cell t1;have p2:=h1.cell t2;have p3:=h1.cell t3;have p4:=h1.cell t4;have p5:=h1.cell t5;have hcw:=fun b o => Below.cell (p:=⟨b,o,none⟩) h1;go_simp;rfl
   simp only [actS];apply Run.call (wanted_none rfl _) (fun _ _ => by go_simp;exact ⟨rfl,rfl⟩)
   ·intro w1 h1 hk;have r0:=h1.cell s0;have r1:=h1.cell s1;have r2:=h1.cell s2;have r3:=h1.cell s3;have r4:=h1.cell s4;have r5:=h1.cell s5;have p0:=h1.cell t0;have p1:=h1.cell t1;have p2:=h1.cell t2;have p3:=h1.cell t3;have p4:=h1.cell t4;have p5:=h1.cell t5;exact HC.out _ ((hF.out.trans (Fut.drew _)).trans h1)
   simp only [actS];apply Run.valG (wanted_none rfl _)
   ·intro w1 h1 hk;go_simp;rfl
   simp only [actS];apply Run.done;intro w2 h2 hk;clear hk;have F9:=Hh (hF.out.trans ((Fut.drew _).trans h2));clear h2;go_wp2;go_roundw
   case rel => exact ⟨k+1,by omega,by go_num,F9⟩
   case measure => simp [intOf] <;> omega
  ·obtain rfl:k=xs.length:=by omega
   have hcs9:=Hh (fun j u (hj:mkEx[j]?=some u) => hF.out.cell (HMK.out j u hj));have e1:(0:Int)≤xs.length∧(xs.length:Int)<xs.length+1:=by omega
   go_wp2_with (first|(show wpList _ _ _ (Oper.mk _ (Op.load _ _) _ _ _ _ :: _) _ _;refine wpList_load_mid rfl _ _ rfl g (xs.length * 6) rfl mkEx _ hcs9.out Tryz.underlying118 rfl hiN ?_));refine (HI.out _ (HP.out.fut hF.out)).mono ?_;rintro e w2 ⟨rfl,f2⟩;have F2:=hF.out.trans f2;clear f2;go_wp2;go_ret;exact ⟨rfl,F2⟩
theorem leftExs_any:∀ h,LeftExsOk h
 | 0 => leftExs_of 0 fun x ct cs B w _ hx => hx.elim
 | h+1 => leftExs_of (h+1) fun x ct cs B w hP ht hx hs => leftExpr_of h (leftExs_any h) x ct cs B w hP ht hx hs
theorem leftExpr_any (x:Ex) (ct cs:List Value) (B:Nat) (w:World) (h:Nat) (hP:Pows w) (ht:TwEx h B w ct x) (hx:RE h w cs x) (hs:x.size≤100000000) :
    Calls Tryz.prog 269 #[.agg ct.toArray,.agg cs.toArray] w fun e w' => e = .returned (.bool true)∧Fut w w':=by
 cases h with
 | zero => exact hx.elim
 | succ h => exact leftExpr_of h (leftExs_any h) x ct cs B w hP ht hx hs
end Go.Proofs.YtobabnpllokkaaaGreatDoor
