/- Parts. -/
import Derived.Test.YtobabnpllokkaaaGreatDoorP15
import Derived.Test.YtobabnpllokkaaaGreatDoorP16
import Derived.Test.YtobabnpllokkaaaGreatDoorP14
import Derived.Test.YtobabnpllokkaaaGreatDoorP00
set_option linter.unusedSimpArgs false
set_option linter.unusedVariables false
namespace Go.Proofs.YtobabnpllokkaaaGreatDoor
open Go.RowKit Go.WideMaps Go.Maps
theorem lv_at {M:Nat} {w:World} {A:Option Addr} {n cap:Nat} {xs:List (ByteArray×Nat)} (h:SlRep 2 M RLv w (.slice A n cap) xs) {k:Nat} (hk:k<xs.length) :
    ∃ b off,A=some ⟨b,off,none⟩∧w.cell? ⟨b,off+k * 2,none⟩=some (.string (xs[k]).1)∧w.cell? ⟨b,off+k * 2+1,none⟩=some (.int .i32 ((xs[k]).2:Nat)):=by
 obtain ⟨A1,cap1,hv,_,_,h3⟩:=h;obtain ⟨b,off,cs,hA,hl,hc,hr⟩:=h3 k _ (List.getElem?_eq_getElem hk);injection hv with hv _ _
 obtain rfl:cs=_:=hr;exact ⟨b,off,hv.trans hA,hc 0 _ rfl,hc 1 _ rfl⟩
theorem sl_tail {α:Type} {sz M:Nat} {R:World→List Value→α→Prop} {w:World} {A:Option Addr} {n cap:Nat} {x:α} {xs:List α} (h:SlRep sz M R w (.slice A n cap) (x :: xs)) :
    ∃ b off,A=some ⟨b,off,none⟩∧n=xs.length+1∧SlRep sz M R w (.slice (some ⟨b,off+sz,none⟩) xs.length (cap - 1)) xs:=by
 obtain ⟨A1,cap1,hv,h1,h2,h3⟩:=h;obtain ⟨b,off,cs,hA,hl,hc,hr⟩:=h3 0 x rfl;injection hv with e1 e2 e3
 subst e3;rw [List.length_cons] at e2 h1;refine ⟨b,off,e1.trans hA,e2,_,_,rfl,by omega,by omega,fun i y hy => ?_⟩;obtain ⟨b',off',cs',hA',hl',hc',hr'⟩:=h3 (i+1) y hy;rw [hA] at hA';injection hA' with hA'
 injection hA' with e4 e5 _
 subst e4;subst e5;refine ⟨b,off+sz,cs',rfl,hl',fun j c hj => ?_,hr'⟩;rw [← hc' j c hj,Nat.add_mul,Nat.one_mul];congr 2;omega
theorem field_prog (A:Option Addr) (n c:Nat) (W:World):(Instr.field 28 (.agg #[.slice A n c]) 0).run Tryz.prog W = .ok (.slice A n c) W:=by kernel_rfl
set_option maxHeartbeats 4000000 in
set_option maxRecDepth 100000 in
theorem lives9_any (w:World):Calls Tryz.prog 16 #[] w fun e w' => e = .returned (.bool true)∧Fut w w':=by
 have HOt:=Hh other_any;have HL:=Hh (fun A W (h:SlRep 3 2199023255552 RRu W (.slice A 2 2) otherP) => levelsG_any A 2 otherP W h (by decide) live_small 10 liveT live_tarj live_len live_blame _ 5 live_raise);have HP:=Hh (fun A W (h:SlRep 3 2199023255552 RRu W (.slice A 2 2) otherP) => partsR_any A 2 otherP W h (by decide) live_small 10 liveT live_tarj live_len live_sound live_pz _ live_parts);have HPl:=Hh (fun A c W (h:SlRep 3 2199023255552 RRu W (.slice A 1 c) [ruY]) => plain_any A c [ruY] W h (by decide) live_smallY);have HOn:=Hh (fun A W (h:SlRep 3 2199023255552 RRu W (.slice A 2 2) otherP) => one_any A 2 otherP W h (by decide) live_small);go_enter Tryz.func16,Tryz.ntmps16;go_wp2_with fail;refine (HOt.out _).mono ?_;rintro e w1 ⟨A1,rfl,r1,f1⟩;have R1:=Hh r1;have F1:=Hh f1;clear r1 f1;go_wp2_with fail;refine (HL.out A1 w1 R1.out).mono ?_;rintro e w2 ⟨lv,rfl,hlv,f2⟩;rw [live_levels] at hlv;obtain ⟨Al,cl,rfl,hl1,hl2⟩:=hlv.rep.form;have HLv:=Hh hlv;have F2:=Hh (F1.out.trans f2);clear hlv f2 R1 hl1 hl2;go_wp2_with fail;refine (HOt.out _).mono ?_;rintro e w3 ⟨A3,rfl,r3,f3⟩;have R3:=Hh r3;have HL3:=Hh (HLv.out.fut RLv.stays f3);have F3:=Hh (F2.out.trans f3);clear r3 f3;go_wp2_with fail;refine (HP.out A3 w3 R3.out).mono ?_;rintro e w4 ⟨pv,rfl,hpv,f4⟩;obtain ⟨Ap,cp,rfl,hp1,hp2⟩:=hpv.rep.form;have F4:=Hh (F3.out.trans f4);have hL4:=(HL3.out.fut RLv.stays f4).rep;obtain ⟨bl,ol,rfl,c0,c1⟩:=lv_at hL4 (k:=0) (by decide);obtain ⟨bl2,ol2,hA2,c2,c3⟩:=lv_at hL4 (k:=2) (by decide);injection hA2 with hA2
 injection hA2 with e3 e4 _
 subst e3;subst e4;have d0:w4.cell? ⟨bl,ol,none⟩=some (.string ⟨#[120]⟩):=c0;have d1:w4.cell? ⟨bl,ol+1,none⟩=some (.int .i32 0):=c1;have d2:w4.cell? ⟨bl,ol+4,none⟩=some (.string ⟨#[122]⟩):=c2;have d3:w4.cell? ⟨bl,ol+5,none⟩=some (.int .i32 1):=c3;obtain ⟨bp,op,v0,rfl,z0,hv0⟩:=ls_at hpv.rep (k:=0) (by decide);obtain ⟨A0,cc0,rfl,_,_⟩:=hv0.rep.form;obtain ⟨b0,o0,rfl,z1⟩:=nm_at hv0.rep (k:=0) (by decide);have d4:w4.cell? ⟨bp,op,none⟩=some (.slice (some ⟨b0,o0,none⟩) 1 cc0):=z0;have d5:w4.cell? ⟨b0,o0,none⟩=some (.string ⟨#[120]⟩):=z1;clear c0 c1 c2 c3 z0 z1 hv0 hpv hL4 hp1 hp2 f4 HL3 HLv R3 HL HP;simp only [List.length_cons,List.length_nil,Nat.zero_add,Nat.reduceAdd];go_wp2_with fail;refine (HOt.out _).mono ?_;rintro e w5 ⟨A5,rfl,r5,f5⟩;obtain ⟨b5,o5,rfl,_,r6⟩:=sl_tail r5;have F5:=Hh (F4.out.trans f5);have hfp:=field_prog;have R6:=Hh r6;clear r5 r6 f5 d0 d1 d2 d3 d4 d5;go_wp2_with fail;refine (HPl.out _ _ _ R6.out).mono ?_;rintro e w6 ⟨rfl,f6⟩;rw [live_plain];have F6:=Hh (F5.out.trans f6);clear f6;go_wp2_with fail;refine (HOt.out _).mono ?_;rintro e w7 ⟨A7,rfl,r7,f7⟩;have F7:=Hh (F6.out.trans f7);have R7:=Hh r7;clear r7 f7;go_wp2_with fail;refine (HOn.out _ _ R7.out).mono ?_;rintro e w8 ⟨rfl,f8⟩;rw [live_one];have F8:=F7.out.trans f8;clear f8;go_wp2;go_ret;exact ⟨rfl,F8⟩
end Go.Proofs.YtobabnpllokkaaaGreatDoor
namespace Go.Proofs.YtobabnpllokkaaaGreatDoor
open Go.RowKit
inductive Rch (G:Gr):ByteArray→ByteArray→Prop
 | refl (s:ByteArray):Rch G s s
 | step {s t u:ByteArray} (h:t ∈ sucs G s) (k:Rch G t u):Rch G s u
theorem Rch.trans {G:Gr} {s t u:ByteArray} (h:Rch G s t) (k:Rch G t u):Rch G s u:=by
 induction h with
 | refl s => exact k
 | step h _ ih => exact .step h (ih k)
theorem Rch.one {G:Gr} {s t:ByteArray} (h:t ∈ sucs G s):Rch G s t:=.step h (.refl t)
theorem Rch.closed {G:Gr} {D:ByteArray→Prop} (hD:∀ u,D u→∀ t ∈ sucs G u,D t) {s t:ByteArray} (h:Rch G s t) (hs:D s):D t:=by
 induction h with
 | refl s => exact hs
 | step h _ ih => exact ih (hD _ hs _ h)
def ixN:List ByteArray→ByteArray→Nat
 | [],_ => 0
 | x :: r,u => if x=u then 1 else ixN r u+1
theorem ixN_in:∀ {l:List ByteArray} {u:ByteArray},u ∈ l→1≤ixN l u∧ixN l u≤l.length
 | x :: r,u,h => by
  unfold ixN
  split
  ·rw [List.length_cons];omega
  ·rename_i hn;rcases List.mem_cons.1 h with e|h
   ·exact absurd e.symm hn
   ·have:=ixN_in h;rw [List.length_cons];omega
theorem ixN_app {l r:List ByteArray} {u:ByteArray} (h:u ∈ l):ixN (l++r) u=ixN l u:=by
 induction l with
 | nil => cases h
 | cons x l ih =>
  rw [List.cons_append];unfold ixN
  by_cases e:x=u
  ·rw [if_pos e,if_pos e]
  ·rw [if_neg e,if_neg e];rcases List.mem_cons.1 h with e2|h
   ·exact absurd e2.symm e
   ·rw [ih h]
theorem ixN_new {l r:List ByteArray} {u:ByteArray} (h:u ∉ l):ixN (l++u :: r) u=l.length+1:=by
 induction l with
 | nil => unfold ixN;simp
 | cons x l ih =>
  rw [List.cons_append];unfold ixN;rw [if_neg (fun e => h (by rw [← e];exact List.mem_cons_self)),ih (fun q => h (List.mem_cons_of_mem _ q)),List.length_cons]
theorem ixN_sub {l S R:List ByteArray} (hn:l.Nodup) (hs:(S++R).Sublist l) {u v:ByteArray} (hu:u ∈ S) (hv:v ∈ R):ixN l u<ixN l v:=by
 induction l generalizing S with
 | nil =>
  have:=List.sublist_nil.1 hs;have hS:S=[]:=(List.append_eq_nil_iff.1 this).1;rw [hS] at hu;cases hu
 | cons x l ih =>
  rw [List.nodup_cons] at hn;cases S with
  | nil => cases hu
  | cons y S =>
   rw [List.cons_append] at hs;have hin:∀ z,z ∈ l→x≠z:=fun z hz e => hn.1 (e ▸ hz);rcases List.sublist_cons_iff.1 hs with h1|⟨r,h1,h2⟩
   ·have hu2:u ∈ l:=h1.subset (by rw [← List.cons_append];exact List.mem_append_left _ hu);have hv2:v ∈ l:=h1.subset (by rw [← List.cons_append];exact List.mem_append_right _ hv);unfold ixN;rw [if_neg (hin u hu2),if_neg (hin v hv2)];have:=ih hn.2 (S:=y :: S) (by rw [List.cons_append];exact h1) hu;omega
   ·injection h1 with e1 e2
    subst e1;subst e2;have hv2:v ∈ l:=h2.subset (List.mem_append_right _ hv);rcases List.mem_cons.1 hu with e|hu
    ·subst e;unfold ixN;rw [if_pos rfl,if_neg (hin v hv2)];have:=ixN_in hv2;omega
    ·have hu2:u ∈ l:=h2.subset (List.mem_append_left _ hu);unfold ixN;rw [if_neg (hin u hu2),if_neg (hin v hv2)];have:=ih hn.2 h2 hu;omega
theorem lk_iff {l:Nums} (hn:(l.map (·.1)).Nodup) {s:ByteArray} {n:Nat}:lkN l s=some n↔(s,n) ∈ l:=by
 constructor
 ·intro h;obtain ⟨i,hi⟩:=lkN_at hn h;exact List.mem_of_getElem? hi
 ·intro h;cases hq:lkN l s with
  | none => exact absurd rfl (lkN_none hq _ h)
  | some m =>
   obtain ⟨i,hi⟩:=lkN_at hn hq;obtain ⟨j,hj⟩:=List.getElem?_of_mem h;have e1:(l.map (·.1))[i]?=some s:=by rw [List.getElem?_map,hi];rfl
   have e2:(l.map (·.1))[j]?=some s:=by rw [List.getElem?_map,hj];rfl
   have:=List.getElem?_inj (List.getElem?_eq_some_iff.1 e1).1 hn |>.1 (e1.trans e2.symm);subst this;rw [hi] at hj;injection hj with hj
   injection hj with _ hj
   rw [hj]
theorem lk_none_iff {l:Nums} {s:ByteArray}:lkN l s=none↔s ∉ l.map (·.1):=by
 constructor
 ·intro h hm;obtain ⟨x,hx,e⟩:=List.mem_map.1 hm;exact lkN_none h x hx e
 ·intro h;unfold lkN;rw [Option.map_eq_none_iff,List.find?_eq_none];intro x hx;simp only [decide_eq_true_eq];exact fun e => h (List.mem_map.2 ⟨x,hx,e⟩)
theorem key_one {l:Nums} (hn:(l.map (·.1)).Nodup) {s:ByteArray} {n m:Nat} (h1:(s,n) ∈ l) (h2:(s,m) ∈ l):n=m:=by
 have e1:=(lk_iff hn).2 h1;rw [(lk_iff hn).2 h2] at e1;exact (Option.some.inj e1).symm
theorem putN_keys (l:Nums) (s:ByteArray) (n:Nat):(putN l s n).map (·.1)=l.map (·.1):=by
 unfold putN;rw [List.map_map];refine List.map_congr_left fun x _ => ?_;simp only [Function.comp]
 split <;> rfl
theorem putN_in {l:Nums} {s u:ByteArray} {n m:Nat}:(u,m) ∈ putN l s n↔(u=s∧m=n∧∃ k,(s,k) ∈ l)∨(u≠s∧(u,m) ∈ l):=by
 unfold putN;rw [List.mem_map]
 constructor
 ·rintro ⟨⟨a,b⟩,hx,e⟩;simp only at e
  split at e
  ·rename_i ha;injection e with e1 e2
   exact .inl ⟨by rw [← e1,ha],e2.symm,b,by rw [← ha];exact hx⟩
  ·rename_i ha;injection e with e1 e2
   subst e1;subst e2;exact .inr ⟨ha,hx⟩
 ·rintro (⟨rfl,rfl,k,hk⟩|⟨h1,h2⟩)
  ·exact ⟨_,hk,by simp⟩
  ·exact ⟨_,h2,by simp [h1]⟩
theorem idxP_new {S R:List ByteArray} {s:ByteArray} (h:s ∉ S):idxP s (S++s :: R)=some S.length:=by
 induction S with
 | nil => unfold idxP;simp
 | cons x S ih =>
  rw [List.cons_append];unfold idxP;rw [if_neg (fun e => h (by rw [← e];exact List.mem_cons_self)),ih (fun q => h (List.mem_cons_of_mem _ q))];rfl
theorem nodupB_of:∀ {l:List ByteArray},l.Nodup→nodupB l=true
 | [],_ => rfl
 | x :: r,h => by
  rw [List.nodup_cons] at h;unfold nodupB;rw [nodupB_of h.2,Bool.and_true];simp [h.1]
def TS.vis (T:TS):List ByteArray:=T.low.map (·.1)
def TS.dn (T:TS):List ByteArray:=T.inn.map (·.1)
structure TInv (G:Gr) (T:TS):Prop where
 nd:T.vis.Nodup
 sub:T.stk.Sublist T.vis
 part:∀ u,u ∈ T.vis↔u ∈ T.stk∨u ∈ T.dn
 dis:∀ u ∈ T.stk,u ∉ T.dn
 nm:∀ u ∈ T.vis,u ∈ G.names
 ndI:T.dn.Nodup
 clo:∀ u ∈ T.dn,∀ t ∈ sucs G u,t ∈ T.dn
 cmp:∀ u i v j,(u,i) ∈ T.inn→(v,j) ∈ T.inn→(i=j↔Rch G u v∧Rch G v u)
 ord:∀ u i t j,(u,i) ∈ T.inn→t ∈ sucs G u→(t,j) ∈ T.inn→j≤i
 num:∀ x ∈ T.inn,x.2<T.out.length
 outp:∀ (j:Nat) P,T.out[j]?=some P→P≠[]∧Up cmpS P∧∀ u,u ∈ P↔(u,j) ∈ T.inn
 olen:T.out.length≤T.inn.length
 low:∀ u ∈ T.stk,∃ n v,(u,n) ∈ T.low∧v ∈ T.stk∧ixN T.vis v=n∧n≤ixN T.vis u∧Rch G u v
structure TPost (G:Gr) (T0:TS) (s:ByteArray) (T:TS) (k:Nat):Prop where
 inv:TInv G T
 vis:∃ M,T.vis=T0.vis++s :: M
 keep:∀ x ∈ T0.low,x ∈ T.low
 inn:∀ x ∈ T0.inn,x ∈ T.inn
 kle:k≤T0.low.length+1
 res:∃ R,T.stk=T0.stk++R∧((R=[]∧k=T0.low.length+1∧s ∈ T.dn)∨(∃ R',R=s :: R'∧k<T0.low.length+1∧∃ v ∈ T.stk,ixN T.vis v=k∧Rch G s v)) ∧
  ∀ u ∈ R,Rch G s u∧∃ n,(u,n) ∈ T.low∧k≤n∧n<ixN T.vis u∧∀ t ∈ sucs G u,t ∈ T.dn∨t ∈ R∨(t ∈ T0.stk∧∀ l,(t,l) ∈ T0.low→n≤l)
structure TLoop (G:Gr) (T0:TS) (s:ByteArray) (ts:List ByteArray) (T:TS) (m:Nat):Prop where
 inv:TInv G T
 vis:∃ M,T.vis=T0.vis++s :: M
 keep:∀ x ∈ T0.low,x ∈ T.low
 inn:∀ x ∈ T0.inn,x ∈ T.inn
 mine:(s,T0.low.length+1) ∈ T.low
 mle:m≤T0.low.length+1
 wit:∃ v ∈ T.stk,ixN T.vis v=m∧Rch G s v
 res:∃ R,T.stk=T0.stk++s :: R∧(∀ u ∈ R,Rch G s u∧∃ n,(u,n) ∈ T.low∧m≤n∧n<ixN T.vis u∧∀ t ∈ sucs G u,t ∈ T.dn∨t ∈ s :: R∨(t ∈ T0.stk∧∀ l,(t,l) ∈ T0.low→n≤l)) ∧
  ∀ t ∈ ts,t ∈ T.dn∨t ∈ s :: R∨(t ∈ T0.stk∧∀ l,(t,l) ∈ T0.low→m≤l)
theorem vis_len (T:TS):T.vis.length=T.low.length:=List.length_map _
section
variable {G:Gr} {T0 T T':TS} {s t:ByteArray} {ts:List ByteArray} {m k:Nat}
theorem TInv.start (h:TInv G T) (hs:s ∉ T.vis) (hn:s ∈ G.names):TLoop G T s [] { T with low:=T.low++[(s,T.low.length+1)],stk:=T.stk++[s] } (T.low.length+1):=by
 have hv:TS.vis { T with low:=T.low++[(s,T.low.length+1)],stk:=T.stk++[s] }=T.vis++[s]:=by unfold TS.vis;simp
 have hd:TS.dn { T with low:=T.low++[(s,T.low.length+1)],stk:=T.stk++[s] }=T.dn:=rfl;have hix:ixN (T.vis++[s]) s=T.low.length+1:=by rw [ixN_new hs,vis_len]
 have hsd:s ∉ T.dn:=fun q => hs ((h.part s).2 (.inr q));refine ⟨⟨?_,?_,?_,?_,?_,h.ndI,h.clo,h.cmp,h.ord,h.num,h.outp,h.olen,?_⟩,⟨[],hv⟩,fun x hx => List.mem_append_left _ hx,fun x hx => hx,List.mem_append_right _ (by simp),Nat.le_refl _,⟨s,List.mem_append_right _ (by simp),by rw [hv,hix],.refl s⟩,[],rfl,fun u hu => (by cases hu),fun t ht => (by cases ht)⟩
 ·rw [hv,List.nodup_append];exact ⟨h.nd,by simp,fun a ha b hb e => hs (by rw [List.mem_singleton] at hb;rw [← hb,← e];exact ha)⟩
 ·rw [hv];exact List.Sublist.append h.sub (List.Sublist.refl _)
 ·intro u;rw [hv,hd];show u ∈ T.vis++[s]↔u ∈ T.stk++[s]∨u ∈ T.dn;rw [List.mem_append,List.mem_append,h.part u]
  constructor
  ·rintro ((h1|h1)|h1)
   ·exact .inl (.inl h1)
   ·exact .inr h1
   ·exact .inl (.inr h1)
  ·rintro ((h1|h1)|h1)
   ·exact .inl (.inl h1)
   ·exact .inr h1
   ·exact .inl (.inr h1)
 ·intro u hu;rw [hd];rcases List.mem_append.1 hu with h1|h1
  ·exact h.dis u h1
  ·rw [List.mem_singleton] at h1;rw [h1];exact hsd
 ·intro u hu;rw [hv] at hu;rcases List.mem_append.1 hu with h1|h1
  ·exact h.nm u h1
  ·rw [List.mem_singleton] at h1;rw [h1];exact hn
 ·intro u hu;rw [hv];rcases List.mem_append.1 hu with h1|h1
  ·obtain ⟨n,v,a,b,c,d,e⟩:=h.low u h1;have hu2:=(h.part u).2 (.inl h1);have hv2:=(h.part v).2 (.inl b);exact ⟨n,v,List.mem_append_left _ a,List.mem_append_left _ b,by rw [ixN_app hv2,c],by rw [ixN_app hu2];exact d,e⟩
  ·rw [List.mem_singleton] at h1;subst h1;exact ⟨_,u,List.mem_append_right _ (by simp),List.mem_append_right _ (by simp),hix,by rw [hix];exact Nat.le_refl _,.refl u⟩
theorem TLoop.done (h:TLoop G T0 s ts T m) (ht:t ∈ T.dn):TLoop G T0 s (ts++[t]) T m:=by
 obtain ⟨R,h1,h2,h3⟩:=h.res;refine ⟨h.inv,h.vis,h.keep,h.inn,h.mine,h.mle,h.wit,R,h1,h2,fun u hu => ?_⟩;rcases List.mem_append.1 hu with hu|hu
 ·exact h3 u hu
 ·rw [List.mem_singleton] at hu;rw [hu];exact .inl ht
theorem TLoop.back (h:TLoop G T0 s ts T m) (he:t ∈ sucs G s) {n:Nat} (hd:t ∉ T.dn) (hl:(t,n) ∈ T.low):TLoop G T0 s (ts++[t]) T (min m n):=by
 obtain ⟨R,h1,h2,h3⟩:=h.res;have htv:t ∈ T.vis:=List.mem_map.2 ⟨_,hl,rfl⟩
 have hts:t ∈ T.stk:=by
  rcases (h.inv.part t).1 htv with q|q
  ·exact q
  ·exact absurd q hd
 obtain ⟨n',v,a,b,c,d,e⟩:=h.inv.low t hts;have hnn:n'=n:=key_one h.inv.nd a hl;subst hnn;refine ⟨h.inv,h.vis,h.keep,h.inn,h.mine,Nat.le_trans (Nat.min_le_left _ _) h.mle,?_,R,h1,fun u hu => ?_,fun u hu => ?_⟩
 ·by_cases hmn:m≤n'
  ·rw [Nat.min_eq_left hmn];exact h.wit
  ·rw [Nat.min_eq_right (by omega)];exact ⟨v,b,c,.step he e⟩
 ·obtain ⟨q1,n2,q2,q3,q4,q5⟩:=h2 u hu;exact ⟨q1,n2,q2,Nat.le_trans (Nat.min_le_left _ _) q3,q4,q5⟩
 ·rcases List.mem_append.1 hu with hu|hu
  ·rcases h3 u hu with q|q|⟨q1,q2⟩
   ·exact .inl q
   ·exact .inr (.inl q)
   ·exact .inr (.inr ⟨q1,fun l hl => Nat.le_trans (Nat.min_le_left _ _) (q2 l hl)⟩)
  ·rw [List.mem_singleton] at hu;subst hu;rw [h1] at hts;rcases List.mem_append.1 hts with q|q
   ·exact .inr (.inr ⟨q,fun l hl' => by rw [key_one h.inv.nd (h.keep _ hl') hl];exact Nat.min_le_right _ _⟩)
   ·exact .inr (.inl q)
theorem TLoop.child (h:TLoop G T0 s ts T m) (he:t ∈ sucs G s) (hp:TPost G T t T' k):TLoop G T0 s (ts++[t]) T' (min m k):=by
 obtain ⟨R,h1,h2,h3⟩:=h.res;obtain ⟨Rc,c1,c2,c3⟩:=hp.res;obtain ⟨M,hM⟩:=h.vis;obtain ⟨Mc,hMc⟩:=hp.vis;have hix:∀ u ∈ T.vis,ixN T'.vis u=ixN T.vis u:=fun u hu => by rw [hMc];exact ixN_app hu
 have hsv:∀ u ∈ T.stk,u ∈ T.vis:=fun u hu => (h.inv.part u).2 (.inl hu)
 have hdd:∀ u ∈ T.dn,u ∈ T'.dn:=fun u hu => by
  obtain ⟨x,hx,e⟩:=List.mem_map.1 hu;exact List.mem_map.2 ⟨x,hp.inn x hx,e⟩
 have hS:T'.stk=T0.stk++s :: (R++Rc):=by rw [c1,h1];simp
 have hlen:T0.low.length+1≤T.low.length:=by
  have:=congrArg List.length hM;rw [List.length_append,vis_len,vis_len,List.length_cons] at this;omega
 refine ⟨hp.inv,⟨M++t :: Mc,by rw [hMc,hM];simp⟩,fun x hx => hp.keep x (h.keep x hx),fun x hx => hp.inn x (h.inn x hx),hp.keep _ h.mine,Nat.le_trans (Nat.min_le_left _ _) h.mle,?_,R++Rc,hS,fun u hu => ?_,fun u hu => ?_⟩
 ·by_cases hmk:m≤k
  ·rw [Nat.min_eq_left hmk];obtain ⟨v,a,b,c⟩:=h.wit;exact ⟨v,by rw [c1];exact List.mem_append_left _ a,by rw [hix v (hsv v a),b],c⟩
  ·rw [Nat.min_eq_right (by omega)];rcases c2 with ⟨_,e,_⟩|⟨R',_,_,v,a,b,c⟩
   ·exfalso;have:=h.mle;omega
   ·exact ⟨v,a,b,.step he c⟩
 ·rcases List.mem_append.1 hu with hu|hu
  ·obtain ⟨q1,n2,q2,q3,q4,q5⟩:=h2 u hu;have huv:u ∈ T.vis:=List.mem_map.2 ⟨_,q2,rfl⟩;refine ⟨q1,n2,hp.keep _ q2,Nat.le_trans (Nat.min_le_left _ _) q3,by rw [hix u huv];exact q4,fun x hx => ?_⟩;rcases q5 x hx with q|q|q
   ·exact .inl (hdd x q)
   ·refine .inr (.inl ?_);rw [List.mem_cons] at q ⊢;rcases q with q|q
    ·exact .inl q
    ·exact .inr (List.mem_append_left _ q)
   ·exact .inr (.inr q)
  ·obtain ⟨q1,n2,q2,q3,q4,q5⟩:=c3 u hu;refine ⟨.step he q1,n2,q2,Nat.le_trans (Nat.min_le_right _ _) q3,q4,fun x hx => ?_⟩;rcases q5 x hx with q|q|⟨p1,p2⟩
   ·exact .inl q
   ·exact .inr (.inl (List.mem_cons_of_mem _ (List.mem_append_right _ q)))
   ·rw [h1] at p1;rcases List.mem_append.1 p1 with p|p
    ·exact .inr (.inr ⟨p,fun l hl => p2 l (h.keep _ hl)⟩)
    ·refine .inr (.inl ?_);rw [List.mem_cons] at p ⊢;rcases p with p|p
     ·exact .inl p
     ·exact .inr (List.mem_append_left _ p)
 ·rcases List.mem_append.1 hu with hu|hu
  ·rcases h3 u hu with q|q|⟨q1,q2⟩
   ·exact .inl (hdd u q)
   ·refine .inr (.inl ?_);rw [List.mem_cons] at q ⊢;rcases q with q|q
    ·exact .inl q
    ·exact .inr (List.mem_append_left _ q)
   ·exact .inr (.inr ⟨q1,fun l hl => Nat.le_trans (Nat.min_le_left _ _) (q2 l hl)⟩)
  ·rw [List.mem_singleton] at hu;subst hu;rcases c2 with ⟨_,_,q⟩|⟨R',q,_⟩
   ·exact .inl q
   ·refine .inr (.inl (List.mem_cons_of_mem _ (List.mem_append_right _ ?_)));rw [q];exact List.mem_cons_self
theorem TLoop.stay (h:TLoop G T0 s ts T m) (hts:∀ t ∈ sucs G s,t ∈ ts) (hm:m<T0.low.length+1) (hs0:s ∉ T0.vis):TPost G T0 s { T with low:=putN T.low s m } m:=by
 obtain ⟨R,h1,h2,h3⟩:=h.res;obtain ⟨M,hM⟩:=h.vis;have hv:TS.vis { T with low:=putN T.low s m }=T.vis:=by unfold TS.vis;exact putN_keys _ _ _
 have hsR:s ∉ R:=fun q => by
  have hn:=h.inv.sub.nodup h.inv.nd;rw [h1,List.nodup_append] at hn;exact (List.nodup_cons.1 hn.2.1).1 q
 have hixs:ixN T.vis s=T0.low.length+1:=by rw [hM,ixN_new hs0,vis_len]
 obtain ⟨vw,wa,wb,wc⟩:=h.wit;refine ⟨⟨by rw [hv];exact h.inv.nd,by rw [hv];exact h.inv.sub,fun u => by rw [hv];exact h.inv.part u,h.inv.dis,by rw [hv];exact h.inv.nm,h.inv.ndI,h.inv.clo,h.inv.cmp,h.inv.ord,h.inv.num,h.inv.outp,h.inv.olen,fun u hu => ?_⟩,⟨M,by rw [hv,hM]⟩,fun x hx => ?_,h.inn,Nat.le_of_lt hm,s :: R,h1,.inr ⟨R,rfl,hm,vw,wa,by rw [hv];exact wb,wc⟩,fun u hu => ?_⟩
 ·rw [hv]
  by_cases e:u=s
  ·subst e;exact ⟨m,vw,putN_in.2 (.inl ⟨rfl,rfl,_,h.mine⟩),wa,wb,by rw [hixs];omega,wc⟩
  ·obtain ⟨n,v,a,b,c,d,f⟩:=h.inv.low u hu;exact ⟨n,v,putN_in.2 (.inr ⟨e,a⟩),b,c,d,f⟩
 ·obtain ⟨u,n⟩:=x;refine putN_in.2 (.inr ⟨fun e => hs0 ?_,h.keep _ hx⟩);rw [← e];exact List.mem_map.2 ⟨_,hx,rfl⟩
 ·rw [hv];have fix:∀ n:Nat,m≤n→∀ t,(t ∈ T.dn∨t ∈ s :: R∨(t ∈ T0.stk∧∀ l,(t,l) ∈ T0.low→n≤l))→t ∈ T.dn∨t ∈ s :: R∨(t ∈ T0.stk∧∀ l,(t,l) ∈ T0.low→n≤l):=fun _ _ _ q => q;rcases List.mem_cons.1 hu with e|hu
  ·subst e;exact ⟨.refl u,m,putN_in.2 (.inl ⟨rfl,rfl,_,h.mine⟩),Nat.le_refl _,by rw [hixs];exact hm,fun t ht => h3 t (hts t ht)⟩
  ·obtain ⟨q1,n2,q2,q3,q4,q5⟩:=h2 u hu;exact ⟨q1,n2,putN_in.2 (.inr ⟨fun e => hsR (e ▸ hu),q2⟩),q3,q4,q5⟩
end
theorem nodup_le:∀ {l m:List ByteArray},l.Nodup→(∀ x ∈ l,x ∈ m)→l.length≤m.length
 | [],m,_,_ => Nat.zero_le _
 | x :: l,m,hn,hs => by
  rw [List.nodup_cons] at hn;obtain ⟨a,b,rfl⟩:=List.append_of_mem (hs x List.mem_cons_self)
  have:=nodup_le (l:=l) (m:=a++b) hn.2 fun y hy => by
   have h1:=hs y (List.mem_cons_of_mem _ hy);rw [List.mem_append,List.mem_cons] at h1;rw [List.mem_append];rcases h1 with h1|h1|h1
   ·exact .inl h1
   ·exact absurd (h1 ▸ hy) hn.1
   ·exact .inr h1
  rw [List.length_append] at this;rw [List.length_cons,List.length_append,List.length_cons];omega
section
variable {G:Gr} {T0 T T':TS} {s t:ByteArray} {ts:List ByteArray} {m k:Nat}
theorem TInv.vis_le (h:TInv G T):T.vis.length≤G.names.length:=nodup_le h.nd h.nm
theorem TInv.dn_le (h:TInv G T):T.dn.length≤G.names.length:=nodup_le h.ndI fun x hx => h.nm x ((h.part x).2 (.inr hx))
theorem TInv.fine (h:TInv G T) (hB:G.names.length≤100000000):T.fine=true:=by
 have h1:=h.vis_le;have h2:=h.dn_le;have h3:=h.sub.length_le;have h4:=h.olen;rw [vis_len] at h1 h3;have h5:T.dn.length=T.inn.length:=List.length_map _;unfold TS.fine;simp only [Bool.and_eq_true,decide_eq_true_eq];omega
theorem TLoop.pop (h:TLoop G T0 s ts T m) (h0:TInv G T0) (hts:∀ t ∈ sucs G s,t ∈ ts) (hm:¬ m<T0.low.length+1) (hs0:s ∉ T0.vis) (hf:T.fine=true):∃ T',finT T s (T0.low.length+1)=some (T',T0.low.length+1)∧TPost G T0 s T' (T0.low.length+1):=by
 obtain ⟨R,h1,h2,h3⟩:=h.res;obtain ⟨M,hM⟩:=h.vis;obtain rfl:m=T0.low.length+1:=by have:=h.mle;omega
 have hv0:∀ u ∈ T0.stk,u ∈ T0.vis:=fun u hu => (h0.part u).2 (.inl hu);have hsS:s ∉ T0.stk:=fun q => hs0 (hv0 s q);have hix:ixN T.vis s=T0.low.length+1:=by rw [hM,ixN_new hs0,vis_len]
 have hix0:∀ u ∈ T0.stk,ixN T.vis u≤T0.low.length:=fun u hu => by
  rw [hM,ixN_app (hv0 u hu),← vis_len];exact (ixN_in (hv0 u hu)).2
 have hnS:=h.inv.sub.nodup h.inv.nd;rw [h1] at hnS;obtain ⟨n1,n2,n3⟩:=List.nodup_append.1 hnS;have hstk:∀ u,u ∈ s :: R→u ∈ T.stk:=fun u hu => by rw [h1];exact List.mem_append_right _ hu
 -- edges of the segment stay in it,or go to what is done
 have hedge:∀ u ∈ s :: R,∀ t ∈ sucs G u,t ∈ T.dn∨t ∈ s :: R:=fun u hu t ht => by
  have lowt:t ∈ T0.stk→∃ l,(t,l) ∈ T0.low∧l≤T0.low.length:=fun q => by
   obtain ⟨n,v,a,b,c,d,e⟩:=h0.low t q;have:=(ixN_in (hv0 t q)).2;rw [vis_len] at this;exact ⟨n,a,by omega⟩
  rcases List.mem_cons.1 hu with e|hu
  ·subst e;rcases h3 t (hts t ht) with q|q|⟨q1,q2⟩
   ·exact .inl q
   ·exact .inr q
   ·obtain ⟨l,l1,l2⟩:=lowt q1;have:=q2 l l1;omega
  ·obtain ⟨_,n,_,a,_,b⟩:=h2 u hu;rcases b t ht with q|q|⟨q1,q2⟩
   ·exact .inl q
   ·exact .inr q
   ·obtain ⟨l,l1,l2⟩:=lowt q1;have:=q2 l l1;omega
 have hfrom:∀ u ∈ s :: R,Rch G s u:=fun u hu => by
  rcases List.mem_cons.1 hu with e|hu
  ·rw [e];exact .refl s
  ·exact (h2 u hu).1
 have hto:∀ i u,ixN T.vis u=i→u ∈ s :: R→Rch G u s:=fun i => by
  induction i using Nat.strongRecOn with
  | _ i ih =>
   intro u hi hu;rcases List.mem_cons.1 hu with e|hR
   ·rw [e];exact .refl s
   ·obtain ⟨_,n,a,b,c,_⟩:=h2 u hR;obtain ⟨n',v,a',b',c',d',e'⟩:=h.inv.low u (hstk u hu);have hnn:n'=n:=key_one h.inv.nd a' a;subst hnn
    have hvR:v ∈ s :: R:=by
     rw [h1] at b';rcases List.mem_append.1 b' with q|q
     ·have:=hix0 v q;omega
     ·exact q
    exact e'.trans (ih (ixN T.vis v) (by omega) v rfl hvR)
 have hback:∀ u ∈ s :: R,Rch G u s:=fun u hu => hto _ u rfl hu;obtain ⟨P,hP⟩:∃ P,sortU cmpS (s :: R)=P:=⟨_,rfl⟩
 have hPm:∀ u,u ∈ P↔u ∈ s :: R:=fun u => by rw [← hP];exact (sortU_spec totS _).2 u
 have hPu:Up cmpS P:=by rw [← hP];exact (sortU_spec totS _).1
 have hPn:P.Nodup:=up_nodup hPu;have hPd:∀ u ∈ P,u ∉ T.dn:=fun u hu => h.inv.dis u (hstk u ((hPm u).1 hu));have hdrop:T.stk.drop T0.stk.length=s :: R:=by rw [h1,List.drop_left]
 have htake:T.stk.take T0.stk.length=T0.stk:=by rw [h1,List.take_left]
 have hany:((s :: R).any fun t => (lkN T.inn t).isSome)=false:=by
  rw [List.any_eq_false];intro u hu q;have hn:lkN T.inn u=none:=lk_none_iff.2 (h.inv.dis u (hstk u hu));rw [hn] at q;cases q
 have hfin:finT T s (T0.low.length+1)=some ({ T with stk:=T0.stk,inn:=T.inn++P.map (fun t => (t,T.out.length)),out:=T.out++[P] },T0.low.length+1):=by
  unfold finT;rw [h1,idxP_new hsS];dsimp only;rw [← h1,hdrop,htake,if_pos ⟨hf,nodupB_of n2,hany⟩,hP]
 have hdn:TS.dn { T with stk:=T0.stk,inn:=T.inn++P.map (fun t => (t,T.out.length)),out:=T.out++[P] }=T.dn++P:=by
  unfold TS.dn;rw [List.map_append,List.map_map];congr 1;exact List.map_id P
 have hvs:TS.vis { T with stk:=T0.stk,inn:=T.inn++P.map (fun t => (t,T.out.length)),out:=T.out++[P] }=T.vis:=rfl
 have hin:∀ u j,(u,j) ∈ T.inn++P.map (fun t => (t,T.out.length))↔(u,j) ∈ T.inn∨(u ∈ P∧j=T.out.length):=fun u j => by
  rw [List.mem_append,List.mem_map]
  constructor
  ·rintro (q|⟨x,hx,e⟩)
   ·exact .inl q
   ·injection e with e1 e2
    exact .inr ⟨by rw [← e1];exact hx,e2.symm⟩
  ·rintro (q|⟨q,rfl⟩)
   ·exact .inl q
   ·exact .inr ⟨u,q,rfl⟩
 have hdi:∀ u j,(u,j) ∈ T.inn→u ∈ T.dn:=fun u j q => List.mem_map.2 ⟨_,q,rfl⟩
 have hclo:∀ u ∈ T.dn++P,∀ t ∈ sucs G u,t ∈ T.dn++P:=fun u hu t ht => by
  rw [List.mem_append] at hu ⊢;rcases hu with hu|hu
  ·exact .inl (h.inv.clo u hu t ht)
  ·rcases hedge u ((hPm u).1 hu) t ht with q|q
   ·exact .inl q
   ·exact .inr ((hPm t).2 q)
 refine ⟨_,hfin,⟨by rw [hvs];exact h.inv.nd,by rw [hvs];exact (List.sublist_append_left _ _).trans (h1 ▸ h.inv.sub),fun u => ?_,fun u hu => ?_,by rw [hvs];exact h.inv.nm,?_,by rw [hdn];exact hclo,?_,?_,?_,?_,?_,?_⟩,⟨M,by rw [hvs,hM]⟩,h.keep,fun x hx => List.mem_append_left _ (h.inn x hx),Nat.le_refl _,[],(List.append_nil _).symm,.inl ⟨rfl,rfl,?_⟩,fun u hu => (by cases hu)⟩
 ·rw [hvs,hdn,h.inv.part u,h1,List.mem_append,List.mem_append,hPm]
  constructor
  ·rintro ((q|q)|q)
   ·exact .inl q
   ·exact .inr (.inr q)
   ·exact .inr (.inl q)
  ·rintro (q|q|q)
   ·exact .inl (.inl q)
   ·exact .inr q
   ·exact .inl (.inr q)
 ·rw [hdn,List.mem_append];rintro (q|q)
  ·exact h.inv.dis u (by rw [h1];exact List.mem_append_left _ hu) q
  ·exact n3 u hu u ((hPm u).1 q) rfl
 ·rw [hdn,List.nodup_append];exact ⟨h.inv.ndI,hPn,fun a ha b hb e => hPd b hb (e ▸ ha)⟩
 ·intro u i v j hu hv;rcases (hin u i).1 hu with q|⟨q,rfl⟩ <;> rcases (hin v j).1 hv with p|⟨p,rfl⟩
  ·exact h.inv.cmp u i v j q p
  ·constructor
   ·intro e;have:=h.inv.num _ q;simp only at this;omega
   ·rintro ⟨c1,_⟩;exact absurd (c1.closed (D:=fun x => x ∈ T.dn) h.inv.clo (hdi u i q)) (hPd v p)
  ·constructor
   ·intro e;have:=h.inv.num _ p;simp only at this;omega
   ·rintro ⟨_,c1⟩;exact absurd (c1.closed (D:=fun x => x ∈ T.dn) h.inv.clo (hdi v j p)) (hPd u q)
  ·exact ⟨fun _ => ⟨(hback u ((hPm u).1 q)).trans (hfrom v ((hPm v).1 p)),(hback v ((hPm v).1 p)).trans (hfrom u ((hPm u).1 q))⟩,fun _ => rfl⟩
 ·intro u i t j hu ht htj;rcases (hin u i).1 hu with q|⟨q,rfl⟩ <;> rcases (hin t j).1 htj with p|⟨p,rfl⟩
  ·exact h.inv.ord u i t j q ht p
  ·exact absurd (h.inv.clo u (hdi u i q) t ht) (hPd t p)
  ·have:=h.inv.num _ p;simp only at this;omega
  ·exact Nat.le_refl _
 ·rintro ⟨u,i⟩ hu;show i<(T.out++[P]).length;rw [List.length_append,List.length_singleton];rcases (hin u i).1 hu with q|⟨q,rfl⟩
  ·have:=h.inv.num _ q;simp only at this;omega
  ·omega
 ·intro j Q hQ;rw [List.getElem?_append] at hQ
  split at hQ
  ·rename_i hj;obtain ⟨a,b,c⟩:=h.inv.outp j Q hQ;refine ⟨a,b,fun u => (c u).trans ⟨fun q => (hin u j).2 (.inl q),fun q => ?_⟩⟩;rcases (hin u j).1 q with q|⟨q,e⟩
   ·exact q
   ·omega
  ·rename_i hj
   have hj2:j=T.out.length:=by
    have:=(List.getElem?_eq_some_iff.1 hQ).1;rw [List.length_singleton] at this;omega
   subst hj2;rw [Nat.sub_self] at hQ;injection hQ with hQ
   subst hQ;refine ⟨fun e => ?_,hPu,fun u => ⟨fun q => (hin u _).2 (.inr ⟨q,rfl⟩),fun q => ?_⟩⟩
   ·have:=(hPm s).2 List.mem_cons_self;rw [e] at this;cases this
   ·rcases (hin u _).1 q with q|⟨q,_⟩
    ·have:=h.inv.num _ q;simp only at this;omega
    ·exact q
 ·show (T.out++[P]).length≤(T.inn++P.map (fun t => (t,T.out.length))).length;rw [List.length_append,List.length_append,List.length_map,List.length_singleton];have h9:=h.inv.olen
  have:0<P.length:=List.length_pos_iff.2 fun e => by
   have:=(hPm s).2 List.mem_cons_self;rw [e] at this;cases this
  omega
 ·intro u hu;rw [hvs];obtain ⟨n,v,a,b,c,d,e⟩:=h.inv.low u (by rw [h1];exact List.mem_append_left _ hu);refine ⟨n,v,a,?_,c,d,e⟩;rw [h1] at b;rcases List.mem_append.1 b with q|q
  ·exact q
  ·have:=ixN_sub h.inv.nd (h1 ▸ h.inv.sub) hu q;omega
 ·rw [hdn];exact List.mem_append_right _ ((hPm s).2 List.mem_cons_self)
theorem loop_ok (n:Nat) (hG:∀ u ∈ G.names,∀ t ∈ sucs G u,t ∈ G.names) (hs:s ∈ G.names) (hle:G.names.length≤n+1+T0.vis.length)
    (ih:∀ (T:TS) (t:ByteArray),TInv G T→t ∉ T.vis→t ∈ G.names→G.names.length≤n+T.vis.length→∃ T' k,visitT G n T t=some (T',k)∧TPost G T t T' k) :
    ∀ (rest done:List ByteArray) (T:TS) (m:Nat),TLoop G T0 s done T m→(∀ t ∈ rest,t ∈ sucs G s)→∃ T' m',rest.foldl (stepT (visitT G n)) (some (T,m))=some (T',m')∧TLoop G T0 s (done++rest) T' m'
 | [],done,T,m,h,_ => ⟨T,m,rfl,by rw [List.append_nil];exact h⟩
 | t :: rest,done,T,m,h,hr => by
  have he:=hr t List.mem_cons_self;obtain ⟨M,hM⟩:=h.vis
  have hlen:G.names.length≤n+T.vis.length:=by
   rw [hM,List.length_append,List.length_cons];omega
  have hrest:∀ x ∈ rest,x ∈ sucs G s:=fun x hx => hr x (List.mem_cons_of_mem _ hx);rw [List.foldl_cons]
  have hgo:∀ T1 m1,TLoop G T0 s (done++[t]) T1 m1→stepT (visitT G n) (some (T,m)) t=some (T1,m1)→∃ T' m',rest.foldl (stepT (visitT G n)) (stepT (visitT G n) (some (T,m)) t)=some (T',m')∧TLoop G T0 s (done++t :: rest) T' m':=fun T1 m1 h1 e => by
   rw [e];obtain ⟨T',m',a,b⟩:=loop_ok n hG hs hle ih rest (done++[t]) T1 m1 h1 hrest;exact ⟨T',m',a,by rw [List.append_assoc] at b;exact b⟩
  cases hi:lkN T.inn t with
  | some q =>
   have hd:t ∈ T.dn:=List.mem_map.2 ⟨_,(lk_iff h.inv.ndI).1 hi,rfl⟩;exact hgo T m (h.done hd) (by unfold stepT;simp only [hi])
  | none =>
   have hd:t ∉ T.dn:=lk_none_iff.1 hi;cases hl:lkN T.low t with
   | some q => exact hgo T (min m q) (h.back he hd ((lk_iff h.inv.nd).1 hl)) (by unfold stepT;simp only [hi,hl])
   | none =>
    obtain ⟨T1,k1,a,b⟩:=ih T t h.inv (lk_none_iff.1 hl) (hG s hs t he) hlen;exact hgo T1 (min m k1) (h.child he b) (by unfold stepT;simp only [hi,hl,a])
theorem visit_ok (hG:∀ u ∈ G.names,∀ t ∈ sucs G u,t ∈ G.names) (hB:G.names.length≤100000000) :
    ∀ (n:Nat) (T:TS) (s:ByteArray),TInv G T→s ∉ T.vis→s ∈ G.names→G.names.length≤n+T.vis.length→∃ T' k,visitT G n T s=some (T',k)∧TPost G T s T' k
 | 0,T,s,h,hs,hn,hle => by
  exfalso
  have:=nodup_le (l:=s :: T.vis) (m:=G.names) (List.nodup_cons.2 ⟨hs,h.nd⟩) fun x hx => by
   rcases List.mem_cons.1 hx with e|hx
   ·rw [e];exact hn
   ·exact h.nm x hx
  rw [List.length_cons] at this;omega
 | n+1,T,s,h,hs,hn,hle => by
  have hstart:=h.start hs hn;obtain ⟨T2,m,e1,h2⟩:=loop_ok n hG hn hle (visit_ok hG hB n) (sucs G s) [] _ _ hstart fun t ht => ht;rw [List.nil_append] at h2;have hlow:lkN T.low s=none:=lk_none_iff.2 hs
  by_cases hm:m<T.low.length+1
  ·refine ⟨_,_,?_,h2.stay (fun t ht => ht) hm hs⟩;unfold visitT;rw [if_pos ⟨h.fine hB,hlow⟩,e1];dsimp only;rw [if_pos hm,(lk_iff h2.inv.nd).2 h2.mine]
  ·obtain ⟨T',a,b⟩:=h2.pop h (fun t ht => ht) hm hs (h2.inv.fine hB);refine ⟨T',_,?_,b⟩;unfold visitT;rw [if_pos ⟨h.fine hB,hlow⟩,e1];dsimp only;rw [if_neg hm,a]
end
theorem ixN_not {l r:List ByteArray} {u:ByteArray} (h:u ∉ l):ixN (l++r) u=l.length+ixN r u:=by
 induction l with
 | nil => rw [List.nil_append,List.length_nil,Nat.zero_add]
 | cons x l ih =>
  rw [List.cons_append];show (if x=u then 1 else ixN (l++r) u+1)=_;rw [if_neg (fun e => h (by rw [← e];exact List.mem_cons_self)),ih (fun q => h (List.mem_cons_of_mem _ q)),List.length_cons];omega
theorem TPost.empty {G:Gr} {T0 T:TS} {s:ByteArray} {k:Nat} (h:TPost G T0 s T k) (h0:TInv G T0) (hs:T0.stk=[]):T.stk=[]∧s ∈ T.dn:=by
 obtain ⟨R,h1,h2,_⟩:=h.res;rw [hs,List.nil_append] at h1;rcases h2 with ⟨e,_,hd⟩|⟨R',_,hk,v,a,b,c⟩
 ·exact ⟨h1.trans e,hd⟩
 ·exfalso;obtain ⟨M,hM⟩:=h.vis
  have hv:v ∉ T0.vis:=fun q => by
   rcases (h0.part v).1 q with q|q
   ·rw [hs] at q;cases q
   ·obtain ⟨x,hx,e⟩:=List.mem_map.1 q;exact h.inv.dis v a (List.mem_map.2 ⟨x,h.inn x hx,e⟩)
  have hv2:=(h.inv.part v).2 (.inl a);rw [hM] at hv2;rcases List.mem_append.1 hv2 with q|q
  ·exact hv q
  ·have h9:=(ixN_in q).1;rw [hM,ixN_not hv,vis_len] at b;omega
theorem TInv.nil (G:Gr):TInv G ⟨[],[],[],[]⟩ :=
 ⟨List.nodup_nil,List.Sublist.refl _,fun u => ⟨fun h => (by cases h),fun h => (by rcases h with h|h <;> cases h)⟩,fun u h => (by cases h),fun u h => (by cases h),List.nodup_nil,fun u h => (by cases h),fun u i v j h => (by cases h),fun u i v j h => (by cases h),fun x h => (by cases h),fun j P h => (by simp at h),Nat.le_refl _,fun u h => (by cases h)⟩
theorem tarj_fold {G:Gr} (hG:∀ u ∈ G.names,∀ t ∈ sucs G u,t ∈ G.names) (hB:G.names.length≤100000000) :
    ∀ (l:List ByteArray) (T:TS),(∀ s ∈ l,s ∈ G.names)→TInv G T→T.stk=[]→∃ T',l.foldl (stepJ G (G.names.length+1)) (some T)=some T'∧TInv G T'∧T'.stk=[]∧(∀ x ∈ T.inn,x ∈ T'.inn)∧∀ s ∈ l,s ∈ T'.dn
 | [],T,_,h,hs => ⟨T,rfl,h,hs,fun x hx => hx,fun s hs => (by cases hs)⟩
 | s :: l,T,hl,h,hs => by
  rw [List.foldl_cons];have hsn:=hl s List.mem_cons_self;have hl':∀ x ∈ l,x ∈ G.names:=fun x hx => hl x (List.mem_cons_of_mem _ hx)
  have hgo:∀ T1,stepJ G (G.names.length+1) (some T) s=some T1→TInv G T1→T1.stk=[]→(∀ x ∈ T.inn,x ∈ T1.inn)→s ∈ T1.dn→∃ T',l.foldl (stepJ G (G.names.length+1)) (stepJ G (G.names.length+1) (some T) s)=some T'∧TInv G T'∧T'.stk=[]∧(∀ x ∈ T.inn,x ∈ T'.inn)∧∀ x ∈ s :: l,x ∈ T'.dn:=fun T1 e h1 h2 h3 h4 => by
   rw [e];obtain ⟨T',a,b,c,d,f⟩:=tarj_fold hG hB l T1 hl' h1 h2;refine ⟨T',a,b,c,fun x hx => d x (h3 x hx),fun x hx => ?_⟩;rcases List.mem_cons.1 hx with e|hx
   ·subst e;obtain ⟨y,hy,e⟩:=List.mem_map.1 h4;exact List.mem_map.2 ⟨y,d y hy,e⟩
   ·exact f x hx
  cases hi:lkN T.inn s with
  | some q => exact hgo T (by unfold stepJ;simp only [hi]) h hs (fun x hx => hx) (List.mem_map.2 ⟨_,(lk_iff h.ndI).1 hi,rfl⟩)
  | none =>
   have hd:s ∉ T.dn:=lk_none_iff.1 hi
   have hv:s ∉ T.vis:=fun q => by
    rcases (h.part s).1 q with q|q
    ·rw [hs] at q;cases q
    ·exact hd q
   obtain ⟨T1,k,a,b⟩:=visit_ok hG hB (G.names.length+1) T s h hv hsn (by omega);obtain ⟨c,d⟩:=b.empty h hs;exact hgo T1 (by unfold stepJ;simp only [hi,a];rfl) b.inv c b.inn d
structure TarOk (G:Gr) (T:TS):Prop where
 inv:TInv G T
 stk:T.stk=[]
 all:∀ s,s ∈ G.names↔s ∈ T.dn
theorem tarj_ok {G:Gr} (hG:∀ u ∈ G.names,∀ t ∈ sucs G u,t ∈ G.names) (hB:G.names.length≤100000000):∃ T,tarjT G (G.names.length+1)=some T∧TarOk G T:=by
 obtain ⟨T,a,b,c,_,d⟩:=tarj_fold hG hB G.sorted ⟨[],[],[],[]⟩ (fun s hs => ((sortU_spec totS _).2 s).1 hs) (TInv.nil G) rfl;exact ⟨T,a,b,c,fun s => ⟨fun q => d s (((sortU_spec totS _).2 s).2 q),fun q => b.nm s ((b.part s).2 (.inr q))⟩⟩
section
variable {G:Gr} {T:TS}
theorem TarOk.at (h:TarOk G T) {s:ByteArray} (hs:s ∈ G.names):(s,lk0 T.inn s) ∈ T.inn:=by
 obtain ⟨⟨a,n⟩,hx,e⟩:=List.mem_map.1 ((h.all s).1 hs);simp only at e;subst e;unfold lk0;rw [(lk_iff h.inv.ndI).2 hx];exact hx
theorem TarOk.down (h:TarOk G T) {s t:ByteArray} (hs:s ∈ G.names) (ht:t ∈ G.names) (he:t ∈ sucs G s):lk0 T.inn t≤lk0 T.inn s:=h.inv.ord _ _ _ _ (h.at hs) he (h.at ht)
end
structure GOk (G:Gr) (E:List (ByteArray×ByteArray)) (N:List ByteArray):Prop where
 nd:G.names.Nodup
 nm:∀ s,s ∈ G.names↔s ∈ N
 su:∀ s t,t ∈ sucs G s↔(s,t) ∈ E
 en:∀ x ∈ E,x.1 ∈ N∧x.2 ∈ N
theorem sucs_pushG (G:Gr) (s t x:ByteArray):sucs (pushG G s t) x=if x=s∧s ∈ G.names then sucs G x++[t] else sucs G x:=by
 have hf:∀ G:Gr,(pushG G s t).find? (fun y => decide (y.1=x))=(G.find? fun y => decide (y.1=x)).map fun y => if y.1=s then (y.1,y.2++[t]) else y:=fun G => by
  unfold pushG;rw [List.find?_map];congr 1;congr 1;funext y;simp only [Function.comp]
  split <;> rfl
 unfold sucs;rw [hf];cases hq:G.find? fun y => decide (y.1=x) with
 | none =>
  have:¬ (x=s∧s ∈ G.names):=by
   rintro ⟨rfl,h⟩;obtain ⟨y,hy,e⟩:=List.mem_map.1 h;have:=List.find?_eq_none.1 hq y hy;simp [e] at this
  rw [if_neg this];rfl
 | some y =>
  have e:y.1=x:=by simpa using List.find?_some hq
  have hy:x ∈ G.names:=List.mem_map.2 ⟨y,List.mem_of_find?_eq_some hq,e⟩
  by_cases hx:x=s
  ·rw [if_pos ⟨hx,hx ▸ hy⟩];simp [e,hx]
  ·rw [if_neg (fun q => hx q.1)];have:¬ y.1=s:=fun q => hx (e.symm.trans q);simp [this]
theorem GOk.add {G:Gr} {E:List (ByteArray×ByteArray)} {N:List ByteArray} (h:GOk G E N) (s:ByteArray):GOk (addG G s) E (N++[s]):=by
 have hnm:∀ x,x ∈ (addG G s).names↔x ∈ N++[s]:=fun x => by
  rw [List.mem_append,List.mem_singleton,← h.nm];unfold addG
  split
  ·rename_i hs;exact ⟨.inl,fun q => q.elim (fun q => q) fun q => by rw [q];exact hs⟩
  ·unfold Gr.names;rw [List.map_append,List.mem_append];simp
 refine ⟨?_,hnm,fun x t => by rw [sucs_add h.nd,h.su],fun x hx => ⟨List.mem_append_left _ (h.en x hx).1,List.mem_append_left _ (h.en x hx).2⟩⟩;unfold addG
 split
 ·exact h.nd
 ·rename_i hs;unfold Gr.names;rw [List.map_append,List.nodup_append];exact ⟨h.nd,by simp,fun a ha b hb e => hs (by simp only [List.map_cons,List.map_nil,List.mem_singleton] at hb;rw [← hb,← e];exact ha)⟩
theorem GOk.step {G:Gr} {E:List (ByteArray×ByteArray)} {N:List ByteArray} (h:GOk G E N) {p:ByteArray} (hp:p ∈ N) (l:Lt):GOk (stepG p G l) (E++[(p,l.p)]) (N++[l.p]):=by
 have h1:GOk (pushG G p l.p) (E++[(p,l.p)]) (N++[l.p])→GOk (stepG p G l) (E++[(p,l.p)]) (N++[l.p]):=fun g => by
  have g2:=g.add l.p;refine ⟨g2.nd,fun x => ?_,g2.su,g.en⟩;show x ∈ (addG (pushG G p l.p) l.p).names↔_;rw [g2.nm];simp
 have hpn:p ∈ G.names:=(h.nm p).2 hp
 -- the names of the pushed graph are G's
 have hn:=pushG_names G p l.p;have g2:GOk (pushG G p l.p) (E++[(p,l.p)]) N→True:=fun _ => trivial
 have hsu:∀ s t,t ∈ sucs (pushG G p l.p) s↔(s,t) ∈ E++[(p,l.p)]:=fun s t => by
  rw [sucs_pushG,List.mem_append,List.mem_singleton]
  by_cases e:s=p
  ·subst e;rw [if_pos ⟨rfl,hpn⟩,List.mem_append,List.mem_singleton,h.su]
   constructor
   ·rintro (q|q)
    ·exact .inl q
    ·exact .inr (by rw [q])
   ·rintro (q|q)
    ·exact .inl q
    ·injection q with _ q;exact .inr q
  ·rw [if_neg (fun q => e q.1),h.su]
   constructor
   ·exact .inl
   ·rintro (q|q)
    ·exact q
    ·injection q with q _;exact absurd q e
 have hnd:(pushG G p l.p).names.Nodup:=by rw [hn];exact h.nd
 refine ⟨?_,fun x => ?_,fun s t => ?_,fun x hx => ?_⟩
 ·show (addG (pushG G p l.p) l.p).names.Nodup;unfold addG
  split
  ·exact hnd
  ·rename_i hs;unfold Gr.names at hnd hs ⊢;rw [List.map_append,List.nodup_append];refine ⟨hnd,by simp,fun a ha b hb e => ?_⟩;simp only [List.map_cons,List.map_nil,List.mem_singleton] at hb;have hal:a=l.p:=e.trans hb;subst hal;exact hs ha
 ·show x ∈ (addG (pushG G p l.p) l.p).names↔_;rw [List.mem_append,List.mem_singleton,← h.nm,← hn];unfold addG
  split
  ·rename_i hs;exact ⟨.inl,fun q => q.elim (fun q => q) fun q => by rw [q];exact hs⟩
  ·unfold Gr.names;rw [List.map_append,List.mem_append];simp
 ·show t ∈ sucs (addG (pushG G p l.p) l.p) s↔_;rw [sucs_add hnd,hsu]
 ·rcases List.mem_append.1 hx with q|q
  ·exact ⟨List.mem_append_left _ (h.en x q).1,List.mem_append_left _ (h.en x q).2⟩
  ·rw [List.mem_singleton] at q;subst q;exact ⟨List.mem_append_left _ hp,List.mem_append_right _ (by simp)⟩
def Ru.nE (r:Ru):List (ByteArray×ByteArray):=(r.b.filter Lt.isA).map fun l => (r.p,l.p)
def Ru.nN (r:Ru):List ByteArray:=r.p :: (r.b.filter Lt.isA).map fun l => l.p
theorem GOk.fold {p:ByteArray}:∀ (ls:List Lt) {G:Gr} {E:List (ByteArray×ByteArray)} {N:List ByteArray},GOk G E N→p ∈ N→GOk (ls.foldl (stepG p) G) (E++ls.map fun l => (p,l.p)) (N++ls.map fun l => l.p)
 | [],G,E,N,h,_ => by simpa using h
 | l :: ls,G,E,N,h,hp => by
  have:=GOk.fold ls (h.step hp l) (List.mem_append_left _ hp);simpa using this
theorem GOk.rule {G:Gr} {E:List (ByteArray×ByteArray)} {N:List ByteArray} (h:GOk G E N) (r:Ru):GOk (drawR G r) (E++r.nE) (N++r.nN):=by
 have:=GOk.fold (p:=r.p) (r.b.filter Lt.isA) (h.add r.p) (List.mem_append_right _ (by simp));unfold drawR Ru.nE Ru.nN;simpa using this
theorem GOk.rules:∀ (rs:List Ru) {G:Gr} {E:List (ByteArray×ByteArray)} {N:List ByteArray},GOk G E N→GOk (rs.foldl drawR G) (E++rs.flatMap Ru.nE) (N++rs.flatMap Ru.nN)
 | [],G,E,N,h => by simpa using h
 | r :: rs,G,E,N,h => by
  have:=GOk.rules rs (h.rule r);simpa using this
theorem draw_ok (rs:List Ru):GOk (drawP rs) (rs.flatMap Ru.nE) (rs.flatMap Ru.nN):=by
 have h0:GOk [] [] []:=⟨List.nodup_nil,fun s => Iff.rfl,fun s t => ⟨fun h => (by cases h),fun h => (by cases h)⟩,fun x hx => (by cases hx)⟩
 have:=GOk.rules rs h0;unfold drawP;simpa using this
theorem edges_pairs:∀ (rs:List Ru) (n:Nat),((rs.zipIdx n).flatMap fun x => x.1.edges (x.2:Nat)).map (fun e => (e.f,e.t))=rs.flatMap Ru.nE
 | [],n => rfl
 | r :: rs,n => by
  rw [List.zipIdx_cons,List.flatMap_cons,List.flatMap_cons,List.map_append,edges_pairs rs (n+1)];congr 1;unfold Ru.edges Ru.nE;rw [List.map_map];rfl
theorem edge_suc {rs:List Ru} {s t:ByteArray}:t ∈ sucs (drawP rs) s↔∃ e ∈ edgesP rs,e.f=s∧e.t=t:=by
 rw [(draw_ok rs).su,← edges_pairs rs 0]
 constructor
 ·intro h;obtain ⟨e,he,q⟩:=List.mem_map.1 h;injection q with q1 q2
  exact ⟨e,he,q1,q2⟩
 ·rintro ⟨e,he,rfl,rfl⟩;exact List.mem_map.2 ⟨e,he,rfl⟩
theorem draw_closed (rs:List Ru):∀ u ∈ (drawP rs).names,∀ t ∈ sucs (drawP rs) u,t ∈ (drawP rs).names:=fun u _ t ht =>
 ((draw_ok rs).nm t).2 ((draw_ok rs).en _ (((draw_ok rs).su u t).1 ht)).2
theorem names_le:∀ rs:List Ru,(rs.flatMap Ru.nN).length≤(rs.map Ru.parts).sum
 | [] => by simp
 | r :: rs => by
  rw [List.flatMap_cons,List.length_append,List.map_cons,List.sum_cons];have h1:=names_le rs
  have h2:r.nN.length≤r.parts:=by
   unfold Ru.nN;rw [List.length_cons,List.length_map,Ru.parts_eq];have:=List.length_filter_le Lt.isA r.b;omega
  omega
theorem draw_len {rs:List Ru} (h:Small rs):(drawP rs).names.length≤10000000:=by
 have:=nodup_le (draw_ok rs).nd fun x hx => ((draw_ok rs).nm x).1 hx;have h2:=names_le rs;unfold Small at h;omega
theorem least_exN {p:Nat→Prop}:∀ n,p n→∃ m,p m∧∀ k,p k→m≤k:=by
 intro n
 induction n using Nat.strongRecOn with
 | _ n ih =>
  intro hn
  by_cases h:∃ m,m<n∧p m
  ·obtain ⟨m,hm,hp⟩:=h;exact ih m hm hp
  ·exact ⟨n,hn,fun k hk => Nat.le_of_not_lt fun hlt => h ⟨k,hlt,hk⟩⟩
def Ready (L:Nat→List Nat) (dn:List Nat) (j:Nat):Prop:=∀ k ∈ L j,k ∈ dn
def OrdOk (n:Nat) (L:Nat→List Nat) (H:Nat→ByteArray):List Nat→List Nat→Prop
 | dn,[] => ∀ j,j<n→j ∈ dn
 | dn,a :: l => a<n∧a ∉ dn∧Ready L dn a∧(∀ j,j<n→j ∉ dn→Ready L dn j→j=a∨cmpS (H a) (H j)<0)∧OrdOk n L H (dn++[a]) l
theorem nodup_leN:∀ {l m:List Nat},l.Nodup→(∀ x ∈ l,x ∈ m)→l.length≤m.length
 | [],m,_,_ => Nat.zero_le _
 | x :: l,m,hn,hs => by
  rw [List.nodup_cons] at hn;obtain ⟨a,b,rfl⟩:=List.append_of_mem (hs x List.mem_cons_self)
  have:=nodup_leN (l:=l) (m:=a++b) hn.2 fun y hy => by
   have h1:=hs y (List.mem_cons_of_mem _ hy);rw [List.mem_append,List.mem_cons] at h1;rw [List.mem_append];rcases h1 with h1|h1|h1
   ·exact .inl h1
   ·exact absurd (h1 ▸ hy) hn.1
   ·exact .inr h1
  rw [List.length_append] at this;rw [List.length_cons,List.length_append,List.length_cons];omega
theorem cmpS_lt_or {x y:ByteArray} (h:¬ cmpS x y<0) (hne:x≠y):cmpS y x<0:=by
 have h1:cmpS x y≠0:=fun e => hne ((totS.eq0 x y).1 e);have h2:=totS.neg x y;omega
theorem pick_spec {T:TS} {wt:Nat→Int} (hH:∀ i j,i<T.out.length→j<T.out.length→headP T i=headP T j→i=j):∀ m,m≤T.out.length →
    (pickP T wt m=none→∀ j,j<m→wt j≠0)∧∀ a,pickP T wt m=some a→a<m∧wt a=0∧∀ j,j<m→wt j=0→j=a∨cmpS (headP T a) (headP T j)<0
 | 0,_ => ⟨fun _ j hj => by omega,fun a h => (by cases h)⟩
 | m+1,hm => by
  obtain ⟨ih1,ih2⟩:=pick_spec hH m (by omega);have e:pickP T wt (m+1)=if wt m=0∧betterP T m (pickP T wt m)=true then some m else pickP T wt m:=rfl
  rw [e];cases hp:pickP T wt m with
  | none =>
   rw [hp] at ih1
   by_cases h0:wt m=0
   ·rw [if_pos ⟨h0,rfl⟩];refine ⟨fun h => (by cases h),fun a h => ?_⟩;obtain rfl:m=a:=Option.some.inj h;refine ⟨by omega,h0,fun j hj hw => ?_⟩;rcases Nat.lt_or_ge j m with q|q
    ·exact absurd hw (ih1 rfl j q)
    ·exact .inl (by omega)
   ·rw [if_neg (fun q => h0 q.1)];refine ⟨fun _ j hj => ?_,fun a h => (by cases h)⟩;rcases Nat.lt_or_ge j m with q|q
    ·exact ih1 rfl j q
    ·rw [show j=m by omega];exact h0
  | some b =>
   obtain ⟨b1,b2,b3⟩:=ih2 b hp
   by_cases h0:wt m=0
   ·by_cases h1:cmpS (headP T m) (headP T b)<0
    ·rw [if_pos ⟨h0,decide_eq_true h1⟩];refine ⟨fun h => (by cases h),fun a h => ?_⟩;obtain rfl:m=a:=Option.some.inj h;refine ⟨by omega,h0,fun j hj hw => ?_⟩;rcases Nat.lt_or_ge j m with q|q
     ·rcases b3 j q hw with e|e
      ·rw [e];exact .inr h1
      ·exact .inr (totS.trans _ _ _ h1 e)
     ·exact .inl (by omega)
    ·rw [if_neg (fun q => h1 (of_decide_eq_true q.2))];refine ⟨fun h => (by cases h),fun a h => ?_⟩;obtain rfl:b=a:=Option.some.inj h;refine ⟨by omega,b2,fun j hj hw => ?_⟩;rcases Nat.lt_or_ge j m with q|q
     ·exact b3 j q hw
     ·rw [show j=m by omega];refine .inr (cmpS_lt_or h1 fun e => ?_);have:=hH m b (by omega) (by omega) e;omega
   ·rw [if_neg (fun q => h0 q.1)];refine ⟨fun h => (by cases h),fun a h => ?_⟩;obtain rfl:b=a:=Option.some.inj h;refine ⟨by omega,b2,fun j hj hw => ?_⟩;rcases Nat.lt_or_ge j m with q|q
    ·exact b3 j q hw
    ·rw [show j=m by omega] at hw;exact absurd hw h0
theorem fold_down:∀ (A:List Nat) (wt:Nat→Int) (j:Nat),A.Nodup→A.foldl downP wt j=if j ∈ A then wrapP (wt j - 1) else wt j
 | [],wt,j,_ => by simp
 | a :: A,wt,j,hn => by
  rw [List.nodup_cons] at hn;rw [List.foldl_cons,fold_down A _ j hn.2];unfold downP
  by_cases e:j=a
  ·subst e;rw [if_neg hn.1,if_pos rfl,if_pos List.mem_cons_self]
  ·rw [if_neg e]
   by_cases h:j ∈ A
   ·rw [if_pos h,if_pos (List.mem_cons_of_mem _ h)]
   ·rw [if_neg h,if_neg (fun q => by rcases List.mem_cons.1 q with q|q;exact e q;exact h q)]
theorem above_iff {G:Gr} {T:TS} {n j k:Nat}:k ∈ aboveP G T n j↔k<n∧j ∈ lowerP G T k:=by
 unfold aboveP;rw [List.mem_filter,List.mem_range,decide_eq_true_eq]
theorem above_nodup (G:Gr) (T:TS) (n j:Nat):(aboveP G T n j).Nodup:=by
 unfold aboveP;exact List.Nodup.sublist List.filter_sublist List.nodup_range
def left (L:Nat→List Nat) (dn:List Nat) (j:Nat):Nat:=((L j).filter fun k => decide (k ∉ dn)).length
theorem filt_one:∀ (l:List Nat) (dn:List Nat) (a:Nat),l.Nodup→a ∉ dn→(l.filter fun k => decide (k ∉ dn)).length=(l.filter fun k => decide (k ∉ dn++[a])).length+(if a ∈ l then 1 else 0)
 | [],dn,a,_,_ => by simp
 | x :: l,dn,a,hn,ha => by
  rw [List.nodup_cons] at hn;have ih:=filt_one l dn a hn.2 ha
  by_cases hx:x=a
  ·subst hx;rw [if_neg hn.1] at ih;rw [List.filter_cons_of_pos (by simpa using ha),List.filter_cons_of_neg (by simp),List.length_cons,if_pos List.mem_cons_self,ih]
  ·have hm:(a ∈ x :: l)↔a ∈ l:=by rw [List.mem_cons];exact ⟨fun q => q.resolve_left fun e => hx e.symm,.inr⟩
   by_cases hd:x ∈ dn
   ·rw [List.filter_cons_of_neg (by simpa using hd),List.filter_cons_of_neg (by simp [hd]),ih];simp only [hm]
   ·rw [List.filter_cons_of_pos (by simpa using hd),List.filter_cons_of_pos (by simp [hd,hx]),List.length_cons,List.length_cons,ih];simp only [hm];omega
structure WtOk (n:Nat) (L:Nat→List Nat) (dn:List Nat) (wt:Nat→Int):Prop where
 laid:∀ j,j<n→j ∈ dn→wt j<0∧Ready L dn j
 wait:∀ j,j<n→j ∉ dn→wt j=(left L dn j:Nat)
theorem left_zero {L:Nat→List Nat} {dn:List Nat} {j:Nat}:left L dn j=0↔Ready L dn j:=by
 unfold left Ready;rw [List.length_eq_zero_iff,List.filter_eq_nil_iff]
 constructor
 ·intro h k hk;have:=h k hk;simpa using this
 ·intro h k hk;simpa using h k hk
theorem ord_some {G:Gr} {T:TS} (hB:T.out.length≤100000000) (hH:∀ i j,i<T.out.length→j<T.out.length→headP T i=headP T j→i=j)
    (hL:∀ i,i<T.out.length→(lowerP G T i).Nodup∧∀ k ∈ lowerP G T i,k<i):∀ (m:Nat) (dn:List Nat) (wt:Nat→Int),WtOk T.out.length (lowerP G T) dn wt→dn.Nodup→(∀ j ∈ dn,j<T.out.length)→dn.length+m=T.out.length →
    ∃ l,ordP G T m wt=some l∧OrdOk T.out.length (lowerP G T) (headP T) dn l
 | 0,dn,wt,h,hn,hd,hm => by
  refine ⟨[],rfl,fun j hj => ?_⟩
  by_cases q:j ∈ dn
  ·exact q
  ·exfalso
   have:=nodup_leN (l:=j :: dn) (m:=List.range T.out.length) (List.nodup_cons.2 ⟨q,hn⟩) fun x hx => by
    rw [List.mem_range];rcases List.mem_cons.1 hx with e|hx
    ·rw [e];exact hj
    ·exact hd x hx
   rw [List.length_cons,List.length_range] at this;omega
 | m+1,dn,wt,h,hn,hd,hm => by
  obtain ⟨p1,p2⟩:=pick_spec (T:=T) (wt:=wt) hH T.out.length (Nat.le_refl _)
  have hsome:∃ a,pickP T wt T.out.length=some a:=by
   cases hp:pickP T wt T.out.length with
   | some a => exact ⟨a,rfl⟩
   | none =>
    exfalso
    have hex:∃ j,j<T.out.length∧j ∉ dn:=by
     refine Classical.byContradiction fun hno => ?_
     have:=nodup_leN (l:=List.range T.out.length) (m:=dn) List.nodup_range fun x hx => by
      rw [List.mem_range] at hx;refine Classical.byContradiction fun q => hno ⟨x,hx,q⟩
     rw [List.length_range] at this;omega
    obtain ⟨j0,hj0⟩:=hex;obtain ⟨j,⟨hj1,hj2⟩,hmin⟩:=least_exN (p:=fun j => j<T.out.length∧j ∉ dn) j0 hj0;refine p1 hp j hj1 ?_;rw [h.wait j hj1 hj2]
    have:left (lowerP G T) dn j=0:=left_zero.2 fun k hk => by
     refine Classical.byContradiction fun q => ?_;have hk2:=(hL j hj1).2 k hk;have:=hmin k ⟨by omega,q⟩;omega
    omega
  obtain ⟨a,ha⟩:=hsome;obtain ⟨a1,a2,a3⟩:=p2 a ha
  have had:a ∉ dn:=fun q => by
   have:=(h.laid a a1 q).1;omega
  have hra:Ready (lowerP G T) dn a:=left_zero.1 (by have:=h.wait a a1 had;omega)
  have hlay:∀ j,j<T.out.length→layP G T wt a j=if a ∈ lowerP G T j then wrapP ((if j=a then -1 else wt j) - 1) else (if j=a then -1 else wt j):=fun j hj => by
   unfold layP;rw [fold_down _ _ _ (above_nodup G T _ a)]
   by_cases q:a ∈ lowerP G T j
   ·rw [if_pos (above_iff.2 ⟨hj,q⟩),if_pos q]
   ·rw [if_neg (fun e => q (above_iff.1 e).2),if_neg q]
  have hW:WtOk T.out.length (lowerP G T) (dn++[a]) (layP G T wt a):=by
   refine ⟨fun j hj hjd => ?_,fun j hj hjd => ?_⟩
   ·rcases List.mem_append.1 hjd with q|q
    ·obtain ⟨w1,w2⟩:=h.laid j hj q;have hna:a ∉ lowerP G T j:=fun e => had (w2 a e);have hja:j≠a:=fun e => had (e ▸ q);rw [hlay j hj,if_neg hna,if_neg hja];exact ⟨w1,fun k hk => List.mem_append_left _ (w2 k hk)⟩
    ·rw [List.mem_singleton] at q;subst q;have hna:j ∉ lowerP G T j:=fun e => by have:=(hL j hj).2 j e;omega
     rw [hlay j hj,if_neg hna,if_pos rfl];exact ⟨by decide,fun k hk => List.mem_append_left _ (hra k hk)⟩
   ·have hjd2:j ∉ dn:=fun q => hjd (List.mem_append_left _ q);have hja:j≠a:=fun e => hjd (List.mem_append_right _ (by rw [e];simp));have hw:=h.wait j hj hjd2;have h1:=filt_one (lowerP G T j) dn a (hL j hj).1 had;have hle:left (lowerP G T) dn j≤(lowerP G T j).length:=List.length_filter_le _ _
    have hle2:(lowerP G T j).length≤j:=by
     have:=nodup_leN (l:=lowerP G T j) (m:=List.range j) (hL j hj).1 fun k hk => List.mem_range.2 ((hL j hj).2 k hk)
     rwa [List.length_range] at this
    rw [hlay j hj,if_neg hja,hw];show _=(((lowerP G T j).filter fun k => decide (k ∉ dn++[a])).length:Int);unfold left at *
    by_cases q:a ∈ lowerP G T j
    ·rw [if_pos q] at h1 ⊢;unfold wrapP wrap64;omega
    ·rw [if_neg q] at h1 ⊢;omega
  obtain ⟨l,l1,l2⟩:=ord_some hB hH hL m (dn++[a]) _ hW (by
   rw [List.nodup_append];exact ⟨hn,by simp,fun x hx y hy e => had (by rw [List.mem_singleton] at hy;rw [← hy,← e];exact hx)⟩) (fun j hj => by
   rcases List.mem_append.1 hj with q|q
   ·exact hd j q
   ·rw [List.mem_singleton] at q;rw [q];exact a1) (by rw [List.length_append,List.length_singleton];omega)
  refine ⟨a :: l,?_,a1,had,hra,fun j hj hjd hr => ?_,l2⟩
  ·unfold ordP;rw [ha];dsimp only;rw [l1];rfl
  ·have hw:=h.wait j hj hjd;have:=left_zero.2 hr;exact a3 j hj (by omega)
theorem lowS_in {inn:Nums} {i x:Nat}:∀ (l:List ByteArray) (acc:List Nat),x ∈ l.foldl (lowS inn i) acc↔x ∈ acc∨(x≠i∧∃ t ∈ l,lk0 inn t=x)
 | [],acc => by simp
 | t :: l,acc => by
  rw [List.foldl_cons,lowS_in l];unfold lowS
  by_cases e:lk0 inn t=i
  ·rw [if_pos e]
   constructor
   ·rintro (q|⟨q1,u,q2,q3⟩)
    ·exact .inl q
    ·exact .inr ⟨q1,u,List.mem_cons_of_mem _ q2,q3⟩
   ·rintro (q|⟨q1,u,q2,q3⟩)
    ·exact .inl q
    ·rcases List.mem_cons.1 q2 with q2|q2
     ·subst q2;exact absurd (q3.symm.trans e) q1
     ·exact .inr ⟨q1,u,q2,q3⟩
  ·rw [if_neg e,addK_mem]
   constructor
   ·rintro ((q|q)|⟨q1,u,q2,q3⟩)
    ·exact .inl q
    ·exact .inr ⟨fun h => e (q.symm.trans h),t,List.mem_cons_self,q.symm⟩
    ·exact .inr ⟨q1,u,List.mem_cons_of_mem _ q2,q3⟩
   ·rintro (q|⟨q1,u,q2,q3⟩)
    ·exact .inl (.inl q)
    ·rcases List.mem_cons.1 q2 with q2|q2
     ·subst q2;exact .inl (.inr q3.symm)
     ·exact .inr ⟨q1,u,q2,q3⟩
theorem lowR_in {G:Gr} {inn:Nums} {i x:Nat}:∀ (l:List ByteArray) (acc:List Nat),x ∈ l.foldl (lowR G inn i) acc↔x ∈ acc∨(x≠i∧∃ s ∈ l,∃ t ∈ sucs G s,lk0 inn t=x)
 | [],acc => by simp
 | s :: l,acc => by
  rw [List.foldl_cons,lowR_in l];unfold lowR;rw [lowS_in]
  constructor
  ·rintro ((q|⟨q1,u,q2,q3⟩)|⟨q1,v,q2,u,q3,q4⟩)
   ·exact .inl q
   ·exact .inr ⟨q1,s,List.mem_cons_self,u,q2,q3⟩
   ·exact .inr ⟨q1,v,List.mem_cons_of_mem _ q2,u,q3,q4⟩
  ·rintro (q|⟨q1,v,q2,u,q3,q4⟩)
   ·exact .inl (.inl q)
   ·rcases List.mem_cons.1 q2 with q2|q2
    ·subst q2;exact .inl (.inr ⟨q1,u,q3,q4⟩)
    ·exact .inr ⟨q1,v,q2,u,q3,q4⟩
section
variable {G:Gr} {T:TS}
theorem TarOk.sound (h:TarOk G T) (hB:G.names.length≤100000000):SoundT T:=by
 refine ⟨fun p hp => ?_,h.inv.num,?_⟩
 ·obtain ⟨j,hj⟩:=List.getElem?_of_mem hp;exact (h.inv.outp j p hj).1
 ·have h1:=h.inv.olen;have h2:=h.inv.dn_le;have h3:T.dn.length=T.inn.length:=List.length_map _;omega
theorem TarOk.out_at (h:TarOk G T) {j:Nat} (hj:j<T.out.length) {u:ByteArray}:u ∈ T.out.getD j []↔(u,j) ∈ T.inn:=by
 rw [List.getD_eq_getElem?_getD,List.getElem?_eq_getElem hj];exact (h.inv.outp j _ (List.getElem?_eq_getElem hj)).2.2 u
theorem TarOk.lk (h:TarOk G T) {u:ByteArray} {j:Nat} (hu:(u,j) ∈ T.inn):lk0 T.inn u=j:=by
 unfold lk0;rw [(lk_iff h.inv.ndI).2 hu];rfl
theorem TarOk.dnm (h:TarOk G T) {u:ByteArray} {j:Nat} (hu:(u,j) ∈ T.inn):u ∈ G.names:=(h.all u).2 (List.mem_map.2 ⟨_,hu,rfl⟩)
theorem TarOk.low_in (h:TarOk G T) {i x:Nat} (hi:i<T.out.length):x ∈ lowerP G T i↔x≠i∧∃ s t,(s,i) ∈ T.inn∧t ∈ sucs G s∧lk0 T.inn t=x:=by
 unfold lowerP;rw [lowR_in]
 constructor
 ·rintro (q|⟨q1,s,q2,t,q3,q4⟩)
  ·cases q
  ·exact ⟨q1,s,t,(h.out_at hi).1 q2,q3,q4⟩
 ·rintro ⟨q1,s,t,q2,q3,q4⟩;exact .inr ⟨q1,s,(h.out_at hi).2 q2,t,q3,q4⟩
theorem TarOk.low_lt (h:TarOk G T) (hG:∀ u ∈ G.names,∀ t ∈ sucs G u,t ∈ G.names) {i:Nat} (hi:i<T.out.length):∀ x ∈ lowerP G T i,x<i:=fun x hx => by
 obtain ⟨q1,s,t,q2,q3,q4⟩:=(h.low_in hi).1 hx;have hs:=h.dnm q2;have:=h.down hs (hG s hs t q3) q3;rw [h.lk q2,q4] at this;omega
theorem TarOk.head_in (h:TarOk G T) {i:Nat} (hi:i<T.out.length):(headP T i,i) ∈ T.inn:=by
 refine (h.out_at hi).1 ?_;unfold headP
 have hne:T.out.getD i []≠[]:=by
  rw [List.getD_eq_getElem?_getD,List.getElem?_eq_getElem hi];exact (h.inv.outp i _ (List.getElem?_eq_getElem hi)).1
 cases hq:T.out.getD i [] with
 | nil => exact absurd hq hne
 | cons a r => exact List.mem_cons_self
theorem TarOk.head_inj (h:TarOk G T) {i j:Nat} (hi:i<T.out.length) (hj:j<T.out.length) (e:headP T i=headP T j):i=j:=by
 have h1:=h.head_in hi;rw [e] at h1;exact key_one h.inv.ndI h1 (h.head_in hj)
theorem TarOk.ords (h:TarOk G T) (hG:∀ u ∈ G.names,∀ t ∈ sucs G u,t ∈ G.names) (hB:G.names.length≤100000000):∃ l,ordP G T T.out.length (waitP G T T.out.length)=some l∧OrdOk T.out.length (lowerP G T) (headP T) [] l :=
 ord_some (h.sound hB).len (fun i j hi hj e => h.head_inj hi hj e) (fun i hi => ⟨lowerP_nodup G T i,h.low_lt hG hi⟩) T.out.length [] _
  ⟨fun j _ hj => (by cases hj),fun j hj _ => by
   unfold waitP left;rw [if_pos hj];congr 1;rw [List.filter_eq_self.2 (fun a _ => by simp)]⟩ List.nodup_nil (fun j hj => by cases hj) (by simp)
end
theorem tarj_rules {rs:List Ru} (h:Small rs):∃ T,tarjT (drawP rs) ((drawP rs).names.length+1)=some T∧TarOk (drawP rs) T :=
 tarj_ok (draw_closed rs) (by have:=draw_len h;omega)
end Go.Proofs.YtobabnpllokkaaaGreatDoor
