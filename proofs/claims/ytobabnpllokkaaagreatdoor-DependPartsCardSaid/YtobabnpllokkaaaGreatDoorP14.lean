/- Parts. -/
import Derived.Test.YtobabnpllokkaaaGreatDoorP13
import Derived.Test.YtobabnpllokkaaaGreatDoorP12
import Derived.Test.YtobabnpllokkaaaGreatDoorP10
import Derived.Test.YtobabnpllokkaaaGreatDoorP11
import Derived.Test.YtobabnpllokkaaaGreatDoorP00
set_option linter.unusedSimpArgs false
set_option linter.unusedVariables false
namespace Go.Proofs.YtobabnpllokkaaaGreatDoor
open Go.RowKit Go.WideMaps Go.Maps
def tfoot (w0:World) (sb ob lmb imb:Nat) (k:Nat):Prop:=k=sb∨k=ob∨k=lmb∨k=imb∨w0.heap.size≤k
def cbT (lb sb gb ib vb ob:Nat):Value:=.func (.func 96) #[] #[.pointer (some ⟨lb,0,none⟩),.pointer (some ⟨sb,0,none⟩),.pointer (some ⟨gb,0,none⟩),.pointer (some ⟨ib,0,none⟩),.pointer (some ⟨vb,0,none⟩),.pointer (some ⟨ob,0,none⟩)]
structure VisC (w0:World) (Bg mb:Nat) (G:Gr) (lb sb gb ib vb ob lmb imb:Nat):Prop where
 gr:GrI Bg w0 mb G
 gc:w0.heap[gb]?=some (.cells #[.map (some mb)] tG (0,0))
 vc:w0.heap[vb]?=some (.cells #[cbT lb sb gb ib vb ob] 152 (0,0))
 ng:¬ tfoot w0 sb ob lmb imb gb
 nv:¬ tfoot w0 sb ob lmb imb vb
 nm:¬ tfoot w0 sb ob lmb imb mb
 ns:∀ k arr,w0.heap[k]?=some (.cells arr 9 (0,0))→¬ tfoot w0 sb ob lmb imb k
def VisOk (w0:World) (G:Gr) (lb sb gb ib vb ob lmb imb n:Nat):Prop :=
 ∀ (T:TS) (s:ByteArray) (T':TS) (m:Nat),visitT G n T s=some (T',m)→∀ (W:World) (sv ov:Value),Only (tfoot w0 sb ob lmb imb) w0 W→TSt w0.heap.size W lb sb ib ob lmb imb T sv ov→s.size≤140737488351232 →
  Calls Tryz.prog 96 #[.string s,.pointer (some ⟨lb,0,none⟩),.pointer (some ⟨sb,0,none⟩),.pointer (some ⟨gb,0,none⟩),.pointer (some ⟨ib,0,none⟩),.pointer (some ⟨vb,0,none⟩),.pointer (some ⟨ob,0,none⟩)] W
   fun e W' => e = .returned (.int .i64 (m:Nat))∧Only (tfoot w0 sb ob lmb imb) w0 W'∧∃ sv' ov',TSt w0.heap.size W' lb sb ib ob lmb imb T' sv' ov'
theorem encN_len (l:Nums):(encN l).length=l.length:=by unfold encN;rw [List.length_map]
theorem TSt.low_len {B lb sb ib ob lmb imb:Nat} {W:World} {T:TS} {sv ov:Value} (h:TSt B W lb sb ib ob lmb imb T sv ov):(Builtin.len_ #[tVm] 3 #[.map (some lmb)]).run Tryz.prog W = .ok (.int .i64 (T.low.length:Nat)) W:=by
 have:=h.lowm.len (ty:=3) Tryz.underlying97;rw [encN_len] at this;exact this
theorem TS.fine_iff {T:TS} (h:T.fine=true):T.low.length≤100000000∧T.stk.length≤100000000∧T.inn.length≤100000000∧T.out.length≤100000000:=by
 unfold TS.fine at h;simp only [Bool.and_eq_true,decide_eq_true_eq] at h;exact ⟨h.1.1.1,h.1.1.2,h.1.2,h.2⟩
theorem totS:TotC cmpS:=⟨ordS.zero,ordS.swap,fun x y z h1 h2 => ordS.lt h1 (by omega)⟩
theorem up_nodup {l:List ByteArray} (h:Up cmpS l):l.Nodup:=List.Pairwise.imp (fun {x y} hlt e => by subst e;exact totS.irr x hlt) h
theorem infoTL:(Tryz.prog.info? 76).map (fun i => (i.zero,i.size,i.bytes))=some (some (.slice none 0 0),1,24):=by kernel_rfl
theorem infoTLs:(Tryz.prog.info? 25).map (·.size)=some 1:=by kernel_rfl
theorem lkN_app {l:Nums} {m:List ByteArray} {s:ByteArray} {n:Nat} (h1:lkN l s=none) (h2:s ∉ m):lkN (l++m.map fun t => (t,n)) s=none:=by
 unfold lkN;rw [Option.map_eq_none_iff,List.find?_eq_none];intro x hx;rw [decide_eq_true_eq];rcases List.mem_append.1 hx with hx|hx
 ·exact lkN_none h1 x hx
 ·obtain ⟨t,ht,rfl⟩:=List.mem_map.1 hx;exact fun e => h2 (by rw [← e];exact ht)
theorem llOne {C:Nat} {sv v:Value} {P:List ByteArray} {n:Nat} (w:World) (e:TypeId) (h:Nms n w v P) (hC:C≤n) (hs:∀ k,v.ownBlock=some k→sv.ownBlock≠some k):SlRep 1 1 (RLs C sv) (w.alloc (.cells #[v] e)) (.slice (some ⟨w.heap.size,0,none⟩) 1 1) [P] :=
 slOne w [v] P e rfl ⟨v,rfl,(h.fut RNm.stays (Fut.alloc _ _)).base hC,hs⟩
theorem sl_drop {M a cap:Nat} {W:World} {g:Nat} {xs:List ByteArray} (h:SlRep 1 M RNm W (.slice (some ⟨g,0,none⟩) xs.length cap) xs) (ha:a≤xs.length):SlRep 1 M RNm W (.slice (some ⟨g,a,none⟩) (xs.drop a).length (cap - a)) (xs.drop a):=by
 obtain ⟨A,c,hv,h1,h2,h3⟩:=h;injection hv with e1 _ e3
 subst e1;subst e3;refine ⟨_,_,rfl,by rw [List.length_drop];omega,by omega,fun i x hx => ?_⟩;rw [List.getElem?_drop] at hx;obtain ⟨b,off,cs,hA,hl,hc,hr⟩:=h3 (a+i) x hx;injection hA with hA
 injection hA with e1 e2 _
 subst e1;subst e2;refine ⟨_,a,cs,rfl,hl,fun j c hj => ?_,hr⟩;have:=hc j c hj
 rwa [show 0+((a+i) * 1+j)=a+(i * 1+j) by omega] at this
set_option maxHeartbeats 8000000 in
set_option maxRecDepth 100000 in
theorem visit_step {w0:World} {Bg mb:Nat} {G:Gr} {lb sb gb ib vb ob lmb imb:Nat} (C:VisC w0 Bg mb G lb sb gb ib vb ob lmb imb) (n:Nat) (IH:VisOk w0 G lb sb gb ib vb ob lmb imb n):VisOk w0 G lb sb gb ib vb ob lmb imb (n+1):=by
 intro T s T' m hv W sv ov hO h hs;unfold visitT at hv
 by_cases hg:T.fine=true∧lkN T.low s=none
 rotate_left
 ·rw [if_neg hg] at hv;cases hv
 rw [if_pos hg] at hv;obtain ⟨hfine,hnone⟩:=hg;obtain ⟨b1,b2,b3,b4⟩:=TS.fine_iff hfine;obtain ⟨R,hR⟩:∃ R,(sucs G s).foldl (stepT (visitT G n)) (some ({ T with low:=T.low++[(s,T.low.length+1)],stk:=T.stk++[s] },T.low.length+1))=R:=⟨_,rfl⟩
 rw [hR] at hv;cases R with
 | none => cases hv
 | some R =>
 obtain ⟨T2,lst⟩:=R
 replace hv:(if lst<T.low.length+1 then (match lkN T2.low s with
  | none => none
  | some _ => some ({ T2 with low:=putN T2.low s lst },lst)) else finT T2 s (T.low.length+1))=some (T',m):=hv
 obtain ⟨gv,hgN,hgs,hgL⟩:=C.gr.lookO hs C.nm;obtain ⟨Ag,cg,rfl,hgl1,hgl2⟩:=hgN.rep.form;have x0:=cell_at h.lowc 0 (.map (some lmb)) rfl;have x1:=h.low_len;obtain ⟨w1,hr1,h1,o1⟩:=h.lowPush hs hnone (T.low.length+1);have o1':Only (tfoot w0 sb ob lmb imb) w0 w1:=hO.trans (o1.mono fun k _ hk => .inr (.inr (.inl hk)));have x2:=cell_at h1.stkc 0 sv rfl;have hcast:((T.low.length+1:Nat):Int)=(T.low.length:Int)+1:=by omega
 rw [hcast] at hr1;have H1:=Hh h1;have O1:=Hh o1';have hs1:=o1'.size;have HC:=Hh C;have HIH:=Hh IH;have hR':=Hh hR;have hv':=Hh hv;have hgN':=Hh hgN;have hgs':=Hh hgs;have hgL':=Hh hgL;clear h1 o1 o1' h C IH hR hv hgN hgs hgL hO hcast hnone hfine;go_enter Tryz.func96,Tryz.ntmps96;go_wp2_with (first|(at_builtin;refine wpList_append_LB (R:=RNm) (B:=w0.heap.size) (M:=1) (xs:=T.stk) (ys:=[s]) (e:=9) (by go_simp) _ _ tVl' rfl Tryz.underlying76 (.string ⟨#[]⟩) 16 infoNm rfl (by decide) RNm.one RNm.keeps rfl rfl (H1.out.stk.fut RNm.stays (Fut.alloc _ _)) (nmOne _ _ _) ?l3 ?l4 ?b3 ?k3))
 case l3 => simp [maxLen];omega
 case l4 => simp;omega
 case b3 => simp;omega
 case k3 =>
 intro v' w' o' g' sn';have F0:=Fut.alloc w1 (.cells #[.string s] 9);have h1a:=H1.out.fut F0
 obtain ⟨c1,c2,hT5,hO5⟩:=h1a.setStk (Only.grown g' fun k hk => hk) (fun k hk e => by
  rcases sn' with e'|e'
  ·rw [e'] at e;exact e
  ·have:=e' k e;omega) o' (fun x hx => by
  rcases List.mem_append.1 hx with hx|hx
  ·exact h1a.stks x hx
  ·rw [List.mem_singleton] at hx;subst hx;exact hs)
 have hown1:∀ k,sv.ownBlock=some k→w0.heap.size≤k:=fun k hk => (H1.out.stk.block k hk).1
 have O5:Only (tfoot w0 sb ob lmb imb) w0 (w'.setCell ⟨sb,0,none⟩ v'):=(O1.out.trans (Only.fut F0)).trans (hO5.mono fun k _ hk => by
  rcases hk with hk|hk
  ·exact .inl hk
  ·exact .inr (.inr (.inr (.inr (hown1 k hk)))))
 obtain ⟨A8,c8,rfl,_,_⟩:=o'.rep.form;rw [List.length_append,List.length_singleton] at hT5 O5 ⊢;obtain ⟨w5,hw5⟩:∃ W,w'.setCell ⟨sb,0,none⟩ (.slice A8 (T.stk.length+1) c8)=W:=⟨_,rfl⟩
 rw [hw5] at hT5 O5;have y1:=cell_at (O5.keeps HC.out.gc HC.out.ng) 0 (.map (some mb)) rfl;have y2:=hgL'.out w5 O5;have HT5:=Hh hT5;have HO5:=Hh O5;have hi2:=infoNms;clear o' g' sn' h1a hO5 hT5 O5 F0 hown1;go_wp2_with (first|(refine wpList_store_1 (wanted_none rfl _) _ _ rfl rfl rfl hi2 rfl c1 c2 hw5 ?_));clear hw5 c1 c2 y1 y2 x0 x1 x2 hr1;obtain ⟨S,hS⟩:∃ S,sucs G s=S:=⟨_,rfl⟩
 rw [hS] at hR' hgN' hgs' hgl1 ⊢;replace hS:=Hh hS;obtain ⟨mine,hmine⟩:∃ x,T.low.length+1=x:=⟨_,rfl⟩
 rw [hmine] at hR' hv' HT5;obtain ⟨T1,hT1⟩:∃ x,({ T with low:=T.low++[(s,mine)],stk:=T.stk++[s] }:TS)=x:=⟨_,rfl⟩
 replace HT5:=Hh (show TSt w0.heap.size w5 lb sb ib ob lmb imb T1 (.slice A8 (T.stk.length+1) c8) ov by rw [← hT1];exact HT5.out);rw [hT1] at hR';replace hT1:=Hh hT1;have hgl0:S.length≤9223372036854775807:=by unfold maxLen at hgl2;omega
 have hmI:((T.low.length:Int)+1)=(mine:Int):=by omega
 try rw [hmI]
 have hmb:mine≤100000001:=by omega
 go_loopw [10,36] (fun lm i wr => ∃ (k:Nat) (Tk:TS) (mk:Nat),k≤S.length∧i = .int .i64 k∧lm = .int .i64 (mk:Nat)∧Hid ((S.take k).foldl (stepT (visitT G n)) (some (T1,mine))=some (Tk,mk))∧Hid (Only (tfoot w0 sb ob lmb imb) w0 wr)∧Hid (∃ sv ov,TSt w0.heap.size wr lb sb ib ob lmb imb Tk sv ov)) (fun _ i _ => S.length - (intOf i).toNat)
 case atStart => exact ⟨0,T1,mine,Nat.zero_le _,rfl,by first|rfl|simp [hmI],Hh rfl,HO5,Hh ⟨_,_,HT5.out⟩⟩
 case round =>
  obtain ⟨k,Tk,mk,hk,rfl,rfl,hK,hOk,hTk⟩:=hrel
  by_cases hlt:k<S.length
  ·have hltI:(k:Int)<S.length:=by omega
   have e0:(0:Int)≤k∧(k:Int)<S.length:=by omega
   obtain ⟨b',off,rfl,z0⟩:=nm_at hgN'.out.rep hlt;obtain ⟨sv1,ov1,t1⟩:=hTk.out
   have z1:=hOk.out.cell z0 (by
    obtain ⟨arr,hty⟩:=hgN'.out.typed b' rfl;exact HC.out.ns b' arr hty)
   have hnx:=Hh (show (S.take (k+1)).foldl (stepT (visitT G n)) (some (T1,mine))=stepT (visitT G n) (some (Tk,mk)) S[k] by rw [List.take_succ_eq_append_getElem hlt,List.foldl_append,hK.out];rfl);obtain ⟨⟨Tn,mn⟩,hnext⟩:=fold_some hR'.out (k+1);have hst:=hnx.out.symm.trans hnext;have htz:=hgs'.out _ (List.getElem_mem hlt);generalize S[k]=t at *;have l1:=(look_num t1.innm t1.inns htz).1;have l2:=(look_num t1.lowm t1.lows htz).1;have p1:=cell_at t1.innc 0 (.map (some imb)) rfl;have p2:=cell_at t1.lowc 0 (.map (some lmb)) rfl;unfold stepT at hst;dsimp only at hst;cases hi1:lkN Tk.inn t with
   | some q =>
    rw [hi1] at l1 hst;simp only [Option.some.injEq,Prod.mk.injEq] at hst;obtain ⟨rfl,rfl⟩:=hst;have HN:=Hh hnext;clear hnext hi1 l2 p2 z0 htz t1 hnx;go_wp2;go_roundw
    case rel => exact ⟨k+1,Tk,mk,by omega,by go_num,rfl,HN,hOk,hTk⟩
    case measure => simp [intOf] <;> omega
   | none =>
    rw [hi1] at l1 hst;dsimp only at hst;cases hi2':lkN Tk.low t with
    | some q =>
     rw [hi2'] at l2 hst;simp only [Option.some.injEq,Prod.mk.injEq] at hst;obtain ⟨rfl,rfl⟩:=hst;have HN:=Hh hnext;clear hnext hi1 hi2' z0 htz t1 hnx;go_wp2;go_roundw
     case rel => exact ⟨k+1,Tk,min mk q,by omega,by go_num,by simp;omega,HN,hOk,hTk⟩
     case measure => simp [intOf] <;> omega
    | none =>
     rw [hi2'] at l2 hst;dsimp only at hst;cases hvv:visitT G n Tk t with
     | none => rw [hvv] at hst;cases hst
     | some r =>
      obtain ⟨Tr,kr⟩:=r;rw [hvv] at hst;simp only [Option.some.injEq,Prod.mk.injEq] at hst;obtain ⟨rfl,rfl⟩:=hst;have HN:=Hh hnext;have HI:=Hh (HIH.out Tk t Tr kr hvv wr sv1 ov1 hOk.out t1 htz);have p3:=cell_at (hOk.out.keeps HC.out.vc HC.out.nv) 0 (cbT lb sb gb ib vb ob) rfl;unfold cbT at p3;clear hnext hi1 hi2' hvv z0 htz t1 hnx;go_wp2_with fail;refine HI.out.mono ?_;rintro e w6 ⟨rfl,hO6,hT6⟩;replace hO6:=Hh hO6;replace hT6:=Hh hT6;clear HI;go_wp2;go_roundw
      case rel => exact ⟨k+1,Tr,min mk kr,by omega,by go_num,by simp;omega,HN,hO6,hT6⟩
      case measure => simp [intOf] <;> omega
  ·obtain rfl:k=S.length:=by omega
   obtain ⟨wo,hwo⟩:∃ x,x=wr:=⟨_,rfl⟩
   subst hwo;have hE:=hK.out;rw [List.take_length,hR'.out] at hE;simp only [Option.some.injEq,Prod.mk.injEq] at hE;obtain ⟨rfl,rfl⟩:=hE;obtain ⟨sv1,ov1,t1⟩:=hTk.out;have hvo:=hv'.out;clear hK hTk hR' hv'
   by_cases hlm:lst<mine
   ·rw [if_pos hlm] at hvo;have hlmI:(lst:Int)<(mine:Int):=by omega
    cases hl:lkN T2.low s with
    | none => rw [hl] at hvo;cases hvo
    | some q =>
     rw [hl] at hvo;simp only [Option.some.injEq,Prod.mk.injEq] at hvo;obtain ⟨rfl,rfl⟩:=hvo;obtain ⟨w6,hr6,t6,o6⟩:=t1.lowPut hs hl lst;have p2:=cell_at t1.lowc 0 (.map (some lmb)) rfl;have O6:Only (tfoot w0 sb ob lmb imb) w0 w6:=hOk.out.trans (o6.mono fun k _ hk => .inr (.inr (.inl hk)));have HD:=Hh (And.intro O6 t6);clear t6 o6 O6 t1 hl;go_wp2;go_ret;exact ⟨rfl,HD.out.1,_,_,HD.out.2⟩
   ·rw [if_neg hlm] at hvo;have hlmI:¬ (lst:Int)<(mine:Int):=by omega
    unfold finT at hvo;cases hid:idxP s T2.stk with
    | none => rw [hid] at hvo;cases hvo
    | some a =>
     rw [hid] at hvo;dsimp only at hvo
     by_cases hgd:T2.fine=true∧nodupB (T2.stk.drop a)=true∧((T2.stk.drop a).any fun t => (lkN T2.inn t).isSome)=false
     rotate_left
     ·rw [if_neg hgd] at hvo;cases hvo
     rw [if_pos hgd] at hvo;simp only [Option.some.injEq,Prod.mk.injEq] at hvo;obtain ⟨rfl,rfl⟩:=hvo;obtain ⟨hf2,hnd,hany⟩:=hgd;obtain ⟨d1,d2,d3,d4⟩:=TS.fine_iff hf2;obtain ⟨ha1,ha2,ha3⟩:=idxP_some hid;obtain ⟨As,cs,rfl,hsl1,hsl2⟩:=t1.stk.rep.form;have hix:=Hh (index_any As cs T2.stk s a wo t1.stk.rep (by unfold maxLen;omega) hid);have p1:=cell_at t1.stkc 0 (.slice As T2.stk.length cs) rfl
     obtain ⟨g,rfl⟩:∃ g,As=some ⟨g,0,none⟩:=by
      obtain ⟨css,q1,q2,q3,q4⟩:=t1.stk;rcases q4 with ⟨q5,q6⟩|⟨g,_,_,q5,_⟩
      ·omega
      ·injection q5 with q5 _ _
       exact ⟨g,q5⟩
     have HT1:=Hh t1;have haI:(a:Int)≤(T2.stk.length:Int):=by omega
     have haI2:(a:Int)≤(cs:Int):=by omega
     have haN:a≤cs:=by omega
     have haN2:a≤T2.stk.length:=by omega
     have hcl:cs≤9223372036854775807:=by unfold maxLen at hsl2;omega
     clear t1 hid;go_wp2_with fail;refine hix.out.mono ?_;rintro e w6 ⟨rfl,hw6⟩;go_wp2_with fail;refine (values_any (some ⟨g,a,none⟩) (T2.stk.length - a) (cs - a) wo).mono ?_;rintro e w7 ⟨rfl,rfl⟩;have hbx:=heap_alloc_new wo (.cells #[.slice (some ⟨g,a,none⟩) (T2.stk.length - a) (cs - a)] 76);have F7:=Fut.alloc wo (.cells #[.slice (some ⟨g,a,none⟩) (T2.stk.length - a) (cs - a)] 76);have hz7:(wo.alloc (.cells #[.slice (some ⟨g,a,none⟩) (T2.stk.length - a) (cs - a)] 76)).heap.size=wo.heap.size+1:=by simp
     have hdl:(T2.stk.drop a).length=T2.stk.length - a:=List.length_drop;have HS:=Hh (sortV_any wo.heap.size (some ⟨g,a,none⟩) (cs - a) (T2.stk.drop a) (wo.alloc (.cells #[.slice (some ⟨g,a,none⟩) (T2.stk.length - a) (cs - a)] 76)) (sl_drop (HT1.out.stk.fut RNm.stays F7).rep haN2) (by unfold maxLen;omega) (by rw [hdl];exact cell_at hbx 0 _ rfl) (by omega) (nodupB_iff _ hnd));obtain ⟨P,hP⟩:∃ P,sortU cmpS (T2.stk.drop a)=P:=⟨_,rfl⟩
     rw [hP] at HS;replace hP:=Hh hP;clear hbx;go_wp2_with fail;refine HS.out.mono ?_;rintro e w8 ⟨v8,rfl,hv8,f8⟩;rw [hz7] at hv8;have F8:=F7.trans f8;have hgr:=HT1.out.stk.block g rfl;obtain ⟨c1,c2,hT9,hO9⟩:=HT1.out.setStk (sv':=.slice (some ⟨g,0,none⟩) a cs) (Only.fut F8) (fun k _ e => e) (OwnL.takeN (HT1.out.stk.fut RNm.stays F8) haN2 (by omega)) (fun x hx => HT1.out.stks x (List.mem_of_mem_take hx));have p2:=cell_at (F8.block HT1.out.stkc) 0 (.slice (some ⟨g,0,none⟩) T2.stk.length cs) rfl;obtain ⟨w9,hw9⟩:∃ W,w8.setCell ⟨sb,0,none⟩ (.slice (some ⟨g,0,none⟩) a cs)=W:=⟨_,rfl⟩
     have O9:Only (tfoot w0 sb ob lmb imb) w0 w9:=by
      rw [← hw9]
      exact hOk.out.trans (hO9.mono fun k _ hk => by
       rcases hk with hk|hk
       ·exact .inl hk
       ·exact .inr (.inr (.inr (.inr (HT1.out.stk.block k hk).1))))
     have hv9:Nms (wo.heap.size+1) w9 v8 P:=by
      rw [← hw9]
      exact hv8.only (fun _ _ h => h) (Only.set (S:=fun k => k=sb) ⟨sb,0,none⟩ _ rfl) fun k hk e => by
       have:=(hv8.block k hk).1;have:=HT1.out.sbW;omega
     rw [hw9] at hT9;obtain ⟨AP,cP,rfl,hPl,hPc⟩:=hv9.rep.form;have HT9:=Hh hT9;have HO9:=Hh O9;have HV9:=Hh hv9;have hi2:=infoNms;clear hv8 f8 F7 F8 hO9 hT9 O9 HS hz7 hv9;go_wp2_with (first|(refine wpList_store_1 (wanted_none rfl _) _ _ rfl rfl rfl hi2 rfl c1 c2 hw9 ?_));clear hw9 c1 c2 p1 p2;obtain ⟨no,hno⟩:∃ x,T2.out.length=x:=⟨_,rfl⟩
     replace hno:=Hh hno
     have hPn:=Hh (show ∀ x ∈ P,x ∈ T2.stk.drop a from fun x hx => by
      rw [← hP.out] at hx;exact ((sortU_spec totS _).2 x).1 hx)
     have hPu:=Hh (show P.Nodup from by
      rw [← hP.out];exact up_nodup (sortU_spec totS _).1)
     have hPs:=Hh (show ∀ x ∈ P,x.size≤140737488351232 from fun x hx => HT1.out.stks x (List.mem_of_mem_drop (hPn.out x hx)))
     have hPi:=Hh (show ∀ x ∈ P,lkN T2.inn x=none from fun x hx => by
      have h9:=List.any_eq_false.1 hany x (hPn.out x hx);cases hq:lkN T2.inn x with
      | none => rfl
      | some q => rw [hq] at h9;exact absurd rfl h9)
     have hPl0:P.length≤9223372036854775807:=by unfold maxLen at hPc;omega
     have hPr:=Hh (show ∀ W,Only (fun k => k=imb) w9 W→Nms (wo.heap.size+1) W (.slice AP P.length cP) P from fun W hW => HV9.out.only (fun _ _ h => h) hW fun k hk e => by
      obtain ⟨arr,hty⟩:=HV9.out.typed k hk;exact (HT9.out.noMap hty).2 e)
     have hq9:=Hh (cell_at HT9.out.outc 0 ov1 rfl);obtain ⟨Ao,co,rfl,hol1,hol2⟩:=HT9.out.out.rep.form;clear hany hnd hf2 hix;go_wp2_with fail;go_loopw [83] (fun i wi => ∃ k:Nat,k≤P.length∧i = .int .i64 k∧Hid (Only (tfoot w0 sb ob lmb imb) w0 wi)∧Hid (Only (fun k => k=imb) w9 wi)∧Hid (TSt w0.heap.size wi lb sb ib ob lmb imb { T2 with stk:=T2.stk.take a,inn:=T2.inn++(P.take k).map (fun t => (t,no)) } (.slice (some ⟨g,0,none⟩) a cs) (.slice Ao T2.out.length co))) (fun i _ => P.length - (intOf i).toNat)
     case atStart => exact ⟨0,Nat.zero_le _,rfl,HO9,Hh (Only.refl _),Hh (by have:=HT9.out;rw [List.take_zero,List.map_nil,List.append_nil];exact this)⟩
     case round =>
      obtain ⟨k,hk,rfl,hOi,hOk9,hTi⟩:=hrel
      by_cases hlt:k<P.length
      ·have hltI:(k:Int)<P.length:=by omega
       have e0:(0:Int)≤k∧(k:Int)<P.length:=by omega
       obtain ⟨b',off,rfl,z0⟩:=nm_at (hPr.out wr hOk9.out).rep hlt;have hts:=hPs.out _ (List.getElem_mem hlt)
       have hlk:lkN (T2.inn++(P.take k).map (fun t => (t,no))) P[k]=none:=lkN_app (hPi.out _ (List.getElem_mem hlt)) (fun hx => by
        obtain ⟨j,hj,he⟩:=List.mem_take_iff_getElem.1 hx;have:=(List.getElem_inj hPu.out).1 he;omega)
       have hnx:=Hh (show T2.inn++(P.take (k+1)).map (fun t => (t,no))=(T2.inn++(P.take k).map (fun t => (t,no)))++[(P[k],no)] by rw [List.take_succ_eq_append_getElem hlt,List.map_append,List.append_assoc];rfl);obtain ⟨w10,hr10,t10,o10⟩:=hTi.out.innPush hts hlk no;have q1:=cell_at hTi.out.innc 0 (.map (some imb)) rfl;have q2:=cell_at hTi.out.outc 0 (.slice Ao T2.out.length co) rfl;rw [hno.out] at q2;have HO10:=Hh (hOi.out.trans (o10.mono fun k _ hk => .inr (.inr (.inr (.inl hk)))));have HK10:=Hh (hOk9.out.trans o10);have HT10:=Hh (show TSt w0.heap.size w10 lb sb ib ob lmb imb { T2 with stk:=T2.stk.take a,inn:=T2.inn++(P.take (k+1)).map (fun t => (t,no)) } (.slice (some ⟨g,0,none⟩) a cs) (.slice Ao T2.out.length co) from by rw [hnx.out];exact t10);clear hlk t10 o10 hts;generalize P[k]=t at *;go_wp2;go_roundw
       case rel => exact ⟨k+1,by omega,by go_num,HO10,HK10,HT10⟩
       case measure => simp [intOf] <;> omega
      ·obtain rfl:k=P.length:=by omega
       rw [List.take_length] at hTi;have q2:=cell_at hTi.out.outc 0 (.slice Ao T2.out.length co) rfl;have hvP:=hPr.out wr hOk9.out;have hgb:=hgr.2;have hbsz:w0.heap.size≤wo.heap.size+1:=by have:=hOk.out.size;omega
       have hsep:∀ k,(Value.slice AP P.length cP).ownBlock=some k→(Value.slice (some ⟨g,0,none⟩) a cs).ownBlock≠some k:=fun k hk e => by
        have h1:=(hvP.block k hk).1;injection e with e
        have h2:g=k:=e;omega
       have HvP:=Hh hvP;have HTi:=Hh hTi.out;have hziw:=hOi.out.size;clear hvP;go_wp2_with (first|(at_builtin;refine wpList_append_LB (R:=RLs w0.heap.size (.slice (some ⟨g,0,none⟩) a cs)) (B:=w0.heap.size) (M:=1) (xs:=T2.out) (ys:=[P]) (e:=76) (by go_simp) _ _ tLL rfl Tryz.underlying25 (.slice none 0 0) 24 infoTL rfl (by decide) RLs.one RLs.keeps rfl rfl (HTi.out.out.fut RLs.stays (Fut.alloc _ _)) (llOne _ _ HvP.out hbsz hsep) ?l4 ?m4 ?b4 ?k4))
       case l4 => simp [maxLen];omega
       case m4 => simp;omega
       case b4 => simp;omega
       case k4 =>
       intro v' w' o' g' sn';have F11:=Fut.alloc wr (.cells #[.slice AP P.length cP] 76);obtain ⟨c1,c2,hT12,hO12⟩:=(HTi.out.fut F11).outPush o' g' sn';obtain ⟨A9,c9,rfl,_,_⟩:=o'.rep.form;rw [List.length_append,List.length_singleton] at hT12 hO12 ⊢;obtain ⟨w12,hw12⟩:∃ W,w'.setCell ⟨ob,0,none⟩ (.slice A9 (T2.out.length+1) c9)=W:=⟨_,rfl⟩
       rw [hw12] at hT12 hO12
       have O12:Only (tfoot w0 sb ob lmb imb) w0 w12:=(hOi.out.trans (Only.fut F11)).trans (hO12.mono fun k _ hk => by
        rcases hk with hk|hk
        ·exact .inr (.inl hk)
        ·exact .inr (.inr (.inr (.inr (HTi.out.out.block k hk).1))))
       have HFin:=Hh (show Only (tfoot w0 sb ob lmb imb) w0 w12∧∃ sv' ov',TSt w0.heap.size w12 lb sb ib ob lmb imb { T2 with stk:=T2.stk.take a,inn:=T2.inn++(sortU cmpS (T2.stk.drop a)).map (fun t => (t,T2.out.length)),out:=T2.out++[sortU cmpS (T2.stk.drop a)] } sv' ov' from ⟨O12,_,_,by rw [hP.out,hno.out];exact hT12⟩);have hi3:=infoTLs;clear o' g' sn' hT12 hO12 O12 F11;go_wp2_with (first|(refine wpList_store_1 (wanted_none rfl _) _ _ rfl rfl rfl hi3 rfl c1 c2 hw12 ?_));clear hw12 c1 c2;go_wp2;go_ret;exact ⟨rfl,HFin.out⟩
theorem visit_any {w0:World} {Bg mb:Nat} {G:Gr} {lb sb gb ib vb ob lmb imb:Nat} (C:VisC w0 Bg mb G lb sb gb ib vb ob lmb imb):∀ n,VisOk w0 G lb sb gb ib vb ob lmb imb n
 | 0 => fun T s T' m hv => by unfold visitT at hv;cases hv
 | n+1 => visit_step C n (visit_any C n)
def stepJ (G:Gr) (N:Nat) (acc:Option TS) (s:ByteArray):Option TS :=
 match acc with
 | none => none
 | some T => match lkN T.inn s with
  | some _ => some T
  | none => (visitT G N T s).map (·.1)
def tarjT (G:Gr) (N:Nat):Option TS:=G.sorted.foldl (stepJ G N) (some ⟨[],[],[],[]⟩)
theorem foldJ_none (G:Gr) (N:Nat):∀ l:List ByteArray,l.foldl (stepJ G N) none=none
 | [] => rfl
 | x :: r => by rw [List.foldl_cons];exact foldJ_none G N r
theorem foldJ_some {G:Gr} {N:Nat} {l:List ByteArray} {a r:TS} (h:l.foldl (stepJ G N) (some a)=some r) (k:Nat):∃ b,(l.take k).foldl (stepJ G N) (some a)=some b:=by
 cases hq:(l.take k).foldl (stepJ G N) (some a) with
 | some b => exact ⟨b,rfl⟩
 | none =>
  rw [← List.take_append_drop k l,List.foldl_append,hq,foldJ_none] at h;cases h
structure Laid (w W:World) (mb:Nat):Prop where
 f:Fut w W
 sz:W.heap.size=w.heap.size+1+1+1+1+1+1+1+1
 gb:W.heap[w.heap.size]?=some (.cells #[.map (some mb)] tG (0,0))
 lm:MapE strV W (w.heap.size+1) (encN [])
 im:MapE strV W (w.heap.size+1+1) (encN [])
 lc:W.heap[w.heap.size+1+1+1]?=some (.cells #[.map (some (w.heap.size+1))] tVm (0,0))
 ic:W.heap[w.heap.size+1+1+1+1]?=some (.cells #[.map (some (w.heap.size+1+1))] tVm (0,0))
 sc:W.heap[w.heap.size+1+1+1+1+1]?=some (.cells #[.slice none 0 0] tVl' (0,0))
 oc:W.heap[w.heap.size+1+1+1+1+1+1]?=some (.cells #[.slice none 0 0] tLL (0,0))
 vc:W.heap[w.heap.size+1+1+1+1+1+1+1]?=some (.cells #[(cbT (w.heap.size+1+1+1) (w.heap.size+1+1+1+1+1) w.heap.size (w.heap.size+1+1+1+1) (w.heap.size+1+1+1+1+1+1+1) (w.heap.size+1+1+1+1+1+1))] 152 (0,0))
theorem set_last (w:World) (o:Array Value) (t:TypeId) (v:Value):(w.alloc (.cells o t)).setCell ⟨w.heap.size,0,none⟩ v=w.alloc (.cells (o.setIfInBounds 0 v) t):=by
 unfold World.setCell World.alloc;congr 1;refine Array.ext_getElem? fun j => ?_;rw [Array.getElem?_modify]
 by_cases hj:j=w.heap.size
 ·subst hj;simp [Array.getElem?_push]
 ·rw [if_neg (Ne.symm hj)];simp [Array.getElem?_push,hj]
theorem laid_of (w:World) (mb:Nat) (X:World) (hX:X=(((((((w.alloc (.cells #[.map (some mb)] tG)).alloc (.map #[] 0)).alloc (.map #[] 0)).alloc (.cells #[.map (some (w.heap.size+1))] tVm)).alloc (.cells #[.map (some (w.heap.size+1+1))] tVm)).alloc (.cells #[.slice none 0 0] tVl')).alloc (.cells #[.slice none 0 0] tLL))):X.heap.size=w.heap.size+1+1+1+1+1+1+1∧∀ W,X.alloc (.cells #[(cbT (w.heap.size+1+1+1) (w.heap.size+1+1+1+1+1) w.heap.size (w.heap.size+1+1+1+1) (w.heap.size+1+1+1+1+1+1+1) (w.heap.size+1+1+1+1+1+1))] 152)=W→Laid w W mb:=by
 obtain ⟨X1,e1⟩:∃ x,w.alloc (.cells #[.map (some mb)] tG)=x:=⟨_,rfl⟩
 obtain ⟨X2,e2⟩:∃ x,X1.alloc (.map #[] 0)=x:=⟨_,rfl⟩
 obtain ⟨X3,e3⟩:∃ x,X2.alloc (.map #[] 0)=x:=⟨_,rfl⟩
 obtain ⟨X4,e4⟩:∃ x,X3.alloc (.cells #[.map (some (w.heap.size+1))] tVm)=x:=⟨_,rfl⟩
 obtain ⟨X5,e5⟩:∃ x,X4.alloc (.cells #[.map (some (w.heap.size+1+1))] tVm)=x:=⟨_,rfl⟩
 obtain ⟨X6,e6⟩:∃ x,X5.alloc (.cells #[.slice none 0 0] tVl')=x:=⟨_,rfl⟩
 obtain ⟨X7,e7⟩:∃ x,X6.alloc (.cells #[.slice none 0 0] tLL)=x:=⟨_,rfl⟩
 rw [e1,e2,e3,e4,e5,e6,e7] at hX;subst hX;have z1:X1.heap.size=w.heap.size+1:=by rw [← e1];simp
 have z2:X2.heap.size=w.heap.size+1+1:=by rw [← e2,← z1];simp
 have z3:X3.heap.size=w.heap.size+1+1+1:=by rw [← e3,← z2];simp
 have z4:X4.heap.size=w.heap.size+1+1+1+1:=by rw [← e4,← z3];simp
 have z5:X5.heap.size=w.heap.size+1+1+1+1+1:=by rw [← e5,← z4];simp
 have z6:X6.heap.size=w.heap.size+1+1+1+1+1+1:=by rw [← e6,← z5];simp
 have z7:X.heap.size=w.heap.size+1+1+1+1+1+1+1:=by rw [← e7,← z6];simp
 refine ⟨z7,fun W hW => ?_⟩;have z8:W.heap.size=w.heap.size+1+1+1+1+1+1+1+1:=by rw [← hW,← z7];simp
 have f1:Fut w X1:=by rw [← e1];exact Fut.alloc _ _
 have f2:Fut X1 X2:=by rw [← e2];exact Fut.alloc _ _
 have f3:Fut X2 X3:=by rw [← e3];exact Fut.alloc _ _
 have f4:Fut X3 X4:=by rw [← e4];exact Fut.alloc _ _
 have f5:Fut X4 X5:=by rw [← e5];exact Fut.alloc _ _
 have f6:Fut X5 X6:=by rw [← e6];exact Fut.alloc _ _
 have f7:Fut X6 X:=by rw [← e7];exact Fut.alloc _ _
 have f8:Fut X W:=by rw [← hW];exact Fut.alloc _ _
 have b0:X1.heap[w.heap.size]?=some (.cells #[.map (some mb)] tG (0,0)):=by rw [← e1];exact heap_alloc_new _ _
 have m1:MapE strV X2 (w.heap.size+1) (encN []):=by rw [← e2,← z1];exact MapE.new X1
 have m2:MapE strV X3 (w.heap.size+1+1) (encN []):=by rw [← e3,← z2];exact MapE.new X2
 have b3:X4.heap[w.heap.size+1+1+1]?=some (.cells #[.map (some (w.heap.size+1))] tVm (0,0)):=by rw [← e4,← z3];exact heap_alloc_new _ _
 have b4:X5.heap[w.heap.size+1+1+1+1]?=some (.cells #[.map (some (w.heap.size+1+1))] tVm (0,0)):=by rw [← e5,← z4];exact heap_alloc_new _ _
 have b5:X6.heap[w.heap.size+1+1+1+1+1]?=some (.cells #[.slice none 0 0] tVl' (0,0)):=by rw [← e6,← z5];exact heap_alloc_new _ _
 have b6:X.heap[w.heap.size+1+1+1+1+1+1]?=some (.cells #[.slice none 0 0] tLL (0,0)):=by rw [← e7,← z6];exact heap_alloc_new _ _
 have b7:W.heap[w.heap.size+1+1+1+1+1+1+1]?=some (.cells #[(cbT (w.heap.size+1+1+1) (w.heap.size+1+1+1+1+1) w.heap.size (w.heap.size+1+1+1+1) (w.heap.size+1+1+1+1+1+1+1) (w.heap.size+1+1+1+1+1+1))] 152 (0,0)):=by rw [← hW,← z7];exact heap_alloc_new _ _
 have g7:=f7.trans f8;have g6:=f6.trans g7;have g5:=f5.trans g6;have g4:=f4.trans g5;have g3:=f3.trans g4;have g2:=f2.trans g3;exact ⟨f1.trans g2,z8,g2.block b0,m1.fut g3,m2.fut g4,g5.block b3,g6.block b4,g7.block b5,f8.block b6,b7⟩
theorem infoFn:(Tryz.prog.info? 152).map (·.size)=some 1:=by kernel_rfl
set_option maxHeartbeats 4000000 in
set_option maxRecDepth 100000 in
theorem parts_any {B mb:Nat} {G:Gr} (N:Nat) (T:TS) (w:World) (h:GrI B w mb G) (hb:G.length≤100000000) (hT:tarjT G N=some T) :
    Calls Tryz.prog 34 #[.map (some mb)] w fun e w' => ∃ imb ov,e = .returned (.tuple #[.map (some imb),ov])∧MapE strV w' imb (encN T.inn)∧(∀ x ∈ T.inn,x.1.size≤140737488351232)∧OwnL 1 w.heap.size 76 (RLs w.heap.size (.slice none 0 0)) w' ov T.out∧Fut w w':=by
 obtain ⟨X,hX⟩:∃ X,X=(((((((w.alloc (.cells #[.map (some mb)] tG)).alloc (.map #[] 0)).alloc (.map #[] 0)).alloc (.cells #[.map (some (w.heap.size+1))] tVm)).alloc (.cells #[.map (some (w.heap.size+1+1))] tVm)).alloc (.cells #[.slice none 0 0] tVl')).alloc (.cells #[.slice none 0 0] tLL)):=⟨_,rfl⟩
 obtain ⟨zX,hL⟩:=laid_of w mb X hX;have hb8:=heap_alloc_new X (.cells #[.nilFunc] 152);have hse:=set_last X #[.nilFunc] 152 (cbT (w.heap.size+1+1+1) (w.heap.size+1+1+1+1+1) w.heap.size (w.heap.size+1+1+1+1) (w.heap.size+1+1+1+1+1+1+1) (w.heap.size+1+1+1+1+1+1));have hse2:(X.alloc (.cells #[.nilFunc] 152)).setCell ⟨X.heap.size,0,none⟩ (cbT (w.heap.size+1+1+1) (w.heap.size+1+1+1+1+1) w.heap.size (w.heap.size+1+1+1+1) (w.heap.size+1+1+1+1+1+1+1) (w.heap.size+1+1+1+1+1+1))=X.alloc (.cells #[(cbT (w.heap.size+1+1+1) (w.heap.size+1+1+1+1+1) w.heap.size (w.heap.size+1+1+1+1) (w.heap.size+1+1+1+1+1+1+1) (w.heap.size+1+1+1+1+1+1))] 152):=hse;obtain ⟨W5,hW5⟩:∃ W,X.alloc (.cells #[(cbT (w.heap.size+1+1+1) (w.heap.size+1+1+1+1+1) w.heap.size (w.heap.size+1+1+1+1) (w.heap.size+1+1+1+1+1+1+1) (w.heap.size+1+1+1+1+1+1))] 152)=W:=⟨_,rfl⟩
 have HLd:=Hh (hL W5 hW5);rw [hW5,zX] at hse2;rw [zX] at hb8;have k1:=cell_at hb8 0 .nilFunc rfl;have k2:=free_at hb8 0;rw [hX] at hse2 k1 k2;clear hse hL hb8 hW5 zX hX X;unfold cbT at hse2;have y0:=cell_at HLd.out.gb 0 (.map (some mb)) rfl;have hg5:=h.fut HLd.out.f;have HNm:=Hh (names_any W5 hg5 hb);have HT:=Hh hT;have hi5:=infoFn;have hmm:=@run_makeMap Tryz.prog;go_enter Tryz.func34,Tryz.ntmps34;go_wp2_with (first|(refine wpList_store_1 (wanted_none rfl _) _ _ rfl rfl rfl hi5 rfl k1 k2 hse2 ?_));clear hse2 k1 k2 y0 hmm;refine HNm.out.mono ?_;rintro e w6 ⟨vn,rfl,hvn,f6⟩;have L:=HLd.out;have hz:=L.sz;have hz6:=f6.size
 have hmbW:mb<w.heap.size:=by
  obtain ⟨_,_,hm9,_⟩:=h;exact hm9.lt
 have ml:=L.lm.fut f6;have mi:=L.im.fut f6
 have nf:∀ k:Nat,k<w.heap.size+1→¬ (tfoot w6 (w.heap.size+1+1+1+1+1) (w.heap.size+1+1+1+1+1+1) (w.heap.size+1) (w.heap.size+1+1)) k:=fun k hk hf => by
  rcases hf with e|e|e|e|e <;> omega
 have C:VisC w6 B mb G (w.heap.size+1+1+1) (w.heap.size+1+1+1+1+1) w.heap.size (w.heap.size+1+1+1+1) (w.heap.size+1+1+1+1+1+1+1) (w.heap.size+1+1+1+1+1+1) (w.heap.size+1) (w.heap.size+1+1):=by
  refine ⟨hg5.fut f6,f6.block L.gb,f6.block L.vc,nf _ (by omega),?_,nf _ (by omega),fun k arr hk hf => ?_⟩
  ·rintro (e|e|e|e|e) <;> omega
  ·rcases hf with e|e|e|e|e
   ·exact other_block hk (f6.block L.sc) (by decide) e
   ·exact other_block hk (f6.block L.oc) (by decide) e
   ·exact map_ne ml hk e.symm
   ·exact map_ne mi hk e.symm
   ·have:=(Array.getElem?_eq_some_iff.1 hk).1;omega
 have T0:TSt w6.heap.size w6 (w.heap.size+1+1+1) (w.heap.size+1+1+1+1+1) (w.heap.size+1+1+1+1) (w.heap.size+1+1+1+1+1+1) (w.heap.size+1) (w.heap.size+1+1) ⟨[],[],[],[]⟩ (.slice none 0 0) (.slice none 0 0) :=
  ⟨f6.block L.lc,ml,f6.block L.ic,mi,f6.block L.sc,OwnL.nil,f6.block L.oc,OwnL.nil,fun k hk => (by cases hk),fun x hx => (by cases hx),fun x hx => (by cases hx),fun x hx => (by cases hx),by omega,by omega⟩
 obtain ⟨Av,cv,rfl,hvl,hvc⟩:=hvn.rep.form;have hF6:=Hh (L.f.trans f6);have hns:=Hh hvn;have hsz5:=Hh hz;have hGs:=Hh (show ∀ x ∈ G.sorted,x.size≤140737488351232 from fun x hx => h.sizes x (((sortU_spec totS _).2 x).1 hx));have HC:=Hh C;have HT0:=Hh T0;have hvl0:G.sorted.length≤9223372036854775807:=by unfold maxLen at hvc;omega
 unfold tarjT at HT;obtain ⟨Nl,hNl⟩:∃ x,G.sorted=x:=⟨_,rfl⟩
 rw [hNl] at HT hns hGs hvl0 ⊢;clear C T0 ml mi nf L hvn f6 hmbW hz hz6 hg5 HLd HNm hNl hvl hvc h;go_wp2_with fail;go_loopw [19] (fun i wr => ∃ (k:Nat) (Tk:TS),k≤Nl.length∧i = .int .i64 k∧Hid ((Nl.take k).foldl (stepJ G N) (some ⟨[],[],[],[]⟩)=some Tk)∧Hid (Only (tfoot w6 (w.heap.size+1+1+1+1+1) (w.heap.size+1+1+1+1+1+1) (w.heap.size+1) (w.heap.size+1+1)) w6 wr)∧Hid (∃ sv ov,TSt w6.heap.size wr (w.heap.size+1+1+1) (w.heap.size+1+1+1+1+1) (w.heap.size+1+1+1+1) (w.heap.size+1+1+1+1+1+1) (w.heap.size+1) (w.heap.size+1+1) Tk sv ov)) (fun i _ => Nl.length - (intOf i).toNat)
 case atStart => exact ⟨0,_,Nat.zero_le _,rfl,Hh rfl,Hh (Only.refl _),Hh ⟨_,_,HT0.out⟩⟩
 case round =>
  obtain ⟨k,Tk,hk,rfl,hK,hO,hTk⟩:=hrel
  by_cases hlt:k<Nl.length
  ·have hltI:(k:Int)<Nl.length:=by omega
   have e0:(0:Int)≤k∧(k:Int)<Nl.length:=by omega
   obtain ⟨b',off,rfl,z0⟩:=nm_at hns.out.rep hlt;obtain ⟨sv1,ov1,t1⟩:=hTk.out
   have z1:=hO.out.cell z0 (by
    obtain ⟨arr,hty⟩:=hns.out.typed b' rfl;exact HC.out.ns b' arr hty)
   have hnx:=Hh (show (Nl.take (k+1)).foldl (stepJ G N) (some ⟨[],[],[],[]⟩)=stepJ G N (some Tk) Nl[k] by rw [List.take_succ_eq_append_getElem hlt,List.foldl_append,hK.out];rfl);obtain ⟨Tn,hnext⟩:=foldJ_some HT.out (k+1);have hst:=hnx.out.symm.trans hnext;have htz:=hGs.out _ (List.getElem_mem hlt);generalize Nl[k]=t at *;have l1:=(look_num t1.innm t1.inns htz).1;have p1:=cell_at t1.innc 0 (.map (some (w.heap.size+1+1))) rfl;unfold stepJ at hst;dsimp only at hst;cases hi1:lkN Tk.inn t with
   | some q =>
    rw [hi1] at l1 hst;simp only [Option.some.injEq] at hst;subst hst;have HN:=Hh hnext;clear hnext hi1 z0 htz t1 hnx;go_wp2;go_roundw
    case rel => exact ⟨k+1,Tk,by omega,by go_num,HN,hO,hTk⟩
    case measure => simp [intOf] <;> omega
   | none =>
    rw [hi1] at l1 hst;dsimp only at hst;cases hvv:visitT G N Tk t with
    | none => rw [hvv] at hst;cases hst
    | some r =>
     obtain ⟨Tr,kr⟩:=r;rw [hvv] at hst;simp only [Option.map_some,Option.some.injEq] at hst;subst hst;have HN:=Hh hnext;have HI:=Hh (visit_any HC.out N Tk t Tr kr hvv wr sv1 ov1 hO.out t1 htz);have p3:=cell_at (hO.out.keeps HC.out.vc HC.out.nv) 0 (cbT (w.heap.size+1+1+1) (w.heap.size+1+1+1+1+1) w.heap.size (w.heap.size+1+1+1+1) (w.heap.size+1+1+1+1+1+1+1) (w.heap.size+1+1+1+1+1+1)) rfl;unfold cbT at p3;clear hnext hi1 hvv z0 htz t1 hnx;go_wp2_with fail;refine HI.out.mono ?_;rintro e w7 ⟨rfl,hO7,hT7⟩;replace hO7:=Hh hO7;replace hT7:=Hh hT7;clear HI;go_wp2;go_roundw
     case rel => exact ⟨k+1,Tr,by omega,by go_num,HN,hO7,hT7⟩
     case measure => simp [intOf] <;> omega
  ·obtain rfl:k=Nl.length:=by omega
   have hE:=hK.out;rw [List.take_length,HT.out] at hE;simp only [Option.some.injEq] at hE;subst hE;obtain ⟨sv1,ov1,t1⟩:=hTk.out;have p1:=cell_at t1.innc 0 (.map (some (w.heap.size+1+1))) rfl;have p2:=cell_at t1.outc 0 ov1 rfl
   have OW:Only (fun k => w.heap.size≤k) w wr:=(Only.fut hF6.out).trans (hO.out.mono fun k _ hk => by
    have:=hF6.out.size;rcases hk with e|e|e|e|e <;> omega)
   have HFin:=Hh (show Fut w wr∧TSt w6.heap.size wr (w.heap.size+1+1+1) (w.heap.size+1+1+1+1+1) (w.heap.size+1+1+1+1) (w.heap.size+1+1+1+1+1+1) (w.heap.size+1) (w.heap.size+1+1) T sv1 ov1 from ⟨OW.toFut fun k hk => hk,t1⟩);clear hK hO hTk t1 OW HT;go_wp2_with fail;refine wp_graph 4 [.d,.d,.d,.d] (by kernel_rfl) (by kernel_rfl) (by kernel_rfl) ?_;simp only [takS,Exs]
   iterate 4 apply Exists.intro
   iterate 2
    apply Run.valG (wanted_none rfl _)
    ·intro w1 h1 hk;have q1:=h1.cell p1;have q2:=h1.cell p2;have hcw:=fun b o => Below.cell (p:=⟨b,o,none⟩) h1;go_simp;rfl
    simp only [actS]
   iterate 2
    apply Run.valG (wanted_none rfl _)
    ·intro w1 h1 hk;go_simp;rfl
    simp only [actS]
   apply Run.done;intro w2 h2 hk;clear hk;have F3:=(Fut.drew _).trans h2;clear h2 p1 p2;go_wp2
   (try simp only [Exit.inBlock,Exit.then])
   refine bodyPost_ret (v:=.tuple #[.map (some (w.heap.size+1+1)),ov1]) (by simp [results,Tryz.results34,go_sem]) rfl ?_;have t1:=HFin.out.2.fut F3;exact ⟨_,_,rfl,t1.innm,t1.inns,(t1.out.base (Nat.le_trans hF6.out.size (Nat.le_refl _))).imp fun cs x hx => hx.low hF6.out.size,HFin.out.1.trans F3⟩
end Go.Proofs.YtobabnpllokkaaaGreatDoor
namespace Go.Proofs.YtobabnpllokkaaaGreatDoor.On
open Go.RowKit
variable [Mut] {P:Program} {ops:Array Oper} {o:Oper} {a:Act} {w0:World} {K:Act→World→Prop} {i:Nat} {r:List Oper} {sps:List Sp} {known:List (Nat×(World→Prop))}
theorem Run.mutVR {S:Value→World→Prop} (hj:NoJ i) (hg:Region.wanted o (yielded ops a.tmps)=true) (hm:∀ v w w',Mut.A i w w'→S v w→S v w')
    (h:∀ w,Mut.H i w0 w→Facts known o w→∃ v w',(execOp a.eval o).run P w = .ok (.value v) w'∧Eff i w w'∧S v w') (k:∀ v,Run P ops w0 K (i+1) r sps (a.put o.dst v) (known++[(i,S v)])) :
    Run P ops w0 K i (o :: r) (.rel S :: sps) a known:=by
 refine ⟨hm,fun w hw hf => ?_,k⟩;unfold givesG;rw [if_pos hg];unfold gives;obtain ⟨v,w',he,h1,h2⟩:=h w hw hf;rw [he];exact ⟨h1.j hj,h2⟩
end Go.Proofs.YtobabnpllokkaaaGreatDoor.On
namespace Go.Proofs.YtobabnpllokkaaaGreatDoor
open Go.RowKit Go.WideMaps Go.Maps
theorem sucs_push_len {G:Gr} (hn:G.names.Nodup) (s t x:ByteArray):(sucs (pushG G s t) x).length≤(sucs G x).length+1:=by
 by_cases hx:x ∈ G.names
 ·obtain ⟨i,S,hi⟩:=names_at hx
  have h1:(pushG G s t)[i]?=some (x,if x=s then S++[t] else S):=by
   unfold pushG;rw [List.getElem?_map,hi];simp only [Option.map_some]
   split <;> rfl
  rw [sucs_at (by rw [pushG_names];exact hn) h1,sucs_at hn hi]
  split
  ·simp
  ·omega
 ·rw [sucs_none (by rw [pushG_names];exact hx)];simp
theorem addG_nodup {G:Gr} (hn:G.names.Nodup) (s:ByteArray):(addG G s).names.Nodup:=by
 unfold addG
 split
 ·exact hn
 ·rename_i h;unfold Gr.names at hn h ⊢;rw [List.map_append];refine List.nodup_append.2 ⟨hn,by simp,fun a ha b hb e => ?_⟩;simp at hb;subst hb;subst e;exact h ha
theorem sucs_add {G:Gr} (hn:G.names.Nodup) (s x:ByteArray):sucs (addG G s) x=sucs G x:=by
 by_cases hx:x ∈ G.names
 ·obtain ⟨i,S,hi⟩:=names_at hx;have hlt:=(List.getElem?_eq_some_iff.1 hi).1
  have h1:(addG G s)[i]?=some (x,S):=by
   unfold addG
   split
   ·exact hi
   ·rw [List.getElem?_append_left hlt];exact hi
  rw [sucs_at (addG_nodup hn s) h1,sucs_at hn hi]
 ·rw [sucs_none hx]
  by_cases he:x=s
  ·subst he
   have h1:(addG G x)[G.length]?=some (x,[]):=by
    unfold addG;rw [if_neg hx,List.getElem?_append_right (Nat.le_refl _)];simp
   exact sucs_at (addG_nodup hn x) h1
  ·refine sucs_none fun h => ?_;unfold addG at h
   split at h
   ·exact hx h
   ·unfold Gr.names at h hx;rw [List.map_append] at h;rcases List.mem_append.1 h with h|h
    ·exact hx h
    ·simp at h;exact he h
structure DrSt (B:Nat) (W:World) (gb rb mb:Nat) (p:ByteArray) (hv bv:Value) (G:Gr):Prop where
 r:W.heap[rb]?=some (.cells #[.string p,hv,bv] 82 (0,0))
 g:W.heap[gb]?=some (.cells #[.map (some mb)] tG (0,0))
 gr:GrI B W mb G
theorem DrSt.fut {B gb rb mb:Nat} {W w':World} {p:ByteArray} {hv bv:Value} {G:Gr} (h:DrSt B W gb rb mb p hv bv G) (hf:Fut W w'):DrSt B w' gb rb mb p hv bv G:=⟨hf.block h.r,hf.block h.g,h.gr.fut hf⟩
theorem GrI.mapE {B mb:Nat} {W:World} {G:Gr} (h:GrI B W mb G):∃ l,MapE strV W mb l:=by
 obtain ⟨vs,_,h2,_⟩:=h;exact ⟨_,h2⟩
theorem GrI.ge {B mb:Nat} {W:World} {G:Gr} (h:GrI B W mb G):B≤mb:=by
 obtain ⟨vs,_,_,_,_,_,h6⟩:=h;exact h6
theorem wpList_mapG {ops:Array Oper} {rest:List Oper} {o:Oper} {a:Act} {Q:Exit→Act→World→Prop} {w w':World} {b:Nat} {p:ByteArray} {v:Value} (hgd:Region.wanted o (yielded ops a.tmps)=true) (m y z:Operand)
    (ho:o.op = .mapUpdate tG m y z) (hm:a.eval m = .map (some b)) (hy:a.eval y = .string p) (hz:a.eval z=v) (hr:(Instr.mapUpdate tG (.map (some b)) (.string p) v).run Tryz.prog w = .ok () w')
    (hk:wpList Tryz.prog ops Q rest (a.put o.dst undef) w'):wpList Tryz.prog ops Q (o :: rest) a w:=by
 refine wpList_of_skip hgd (w':=w') ?_ hk;unfold execOp;simp only [ho,hm,hy,hz,hr,Sem.run_bind,Sem.run_pure,Result.andThen_ok]
theorem exec_append_nm {B:Nat} {w:World} {o:Oper} {a:Act} {s x:Operand} {v u:Value} {xs:List ByteArray} {t:ByteArray} (ho:o.op = .call { callee:=.builtin .append,args:=#[s,x],argTypes:=#[tVl',tVl'] }) (hs:a.eval s=v) (hx:a.eval x=u) (hown:Nms B w v xs) (hu:SlRep 1 1 RNm w u [t]) (hl:xs.length≤1000000000) (hB:B≤w.heap.size) :
    ∃ v' w',(execOp a.eval o).run Tryz.prog w = .ok (.value v') w'∧Nms B w' v' (xs++[t])∧w.grownBy w' v.ownBlock∧SameOrNew w v v':=by
 obtain ⟨i,hi,hz,hs',hb⟩:=info_parts infoNm;obtain ⟨v',w',hr,h2,h3,h4⟩:=run_append_listB (P:=Tryz.prog) tVl' o.type i (.string ⟨#[]⟩) 16 Tryz.underlying76 hi hz hs' hb rfl (by decide) RNm.one (fun w' cs x hr hg => RNm.keeps w w' _ cs x hr hg hown.typed) hown hu (by simp [maxLen];omega) (by simp;omega) hB;refine ⟨v',w',?_,h2,h3,h4⟩;unfold execOp;simp only [ho,resolve,invoke,builtin,Sem.run_bind,Sem.run_pure,Result.andThen_ok,List.map_toArray,List.map_cons,List.map_nil,hs,hx,hr]
theorem exec_append_goal {B:Nat} {w:World} {o:Oper} {a:Act} {s x:Operand} {v u:Value} {xs:List ByteArray} {t:ByteArray} {E:World→Prop} {S:Value→World→Prop} (ho:o.op = .call { callee:=.builtin .append,args:=#[s,x],argTypes:=#[tVl',tVl'] }) (hs:a.eval s=v) (hx:a.eval x=u) (hown:Nms B w v xs) (hu:SlRep 1 1 RNm w u [t]) (hl:xs.length≤1000000000) (hB:B≤w.heap.size)
    (h:∀ v' w',Nms B w' v' (xs++[t])→w.grownBy w' v.ownBlock→SameOrNew w v v'→E w'∧S v' w'):∃ v' w',(execOp a.eval o).run Tryz.prog w = .ok (.value v') w'∧E w'∧S v' w':=by
 obtain ⟨v',w',e1,e2,e3,e4⟩:=exec_append_nm ho hs hx hown hu hl hB;exact ⟨v',w',e1,h v' w' e2 e3 e4⟩
theorem nmBlock {w:World} {n:Nat} {s:ByteArray} (h:w.heap[n]?=some (.cells #[.string s] 9 (0,0))):SlRep 1 1 RNm w (.slice (some ⟨n,0,none⟩) 1 1) [s] :=
 ⟨_,1,rfl,Nat.le_refl _,Nat.le_refl _,fun i y hy => by
  have hi:i=0:=by
   have:=(List.getElem?_eq_some_iff.1 hy).1;simp at this;omega
  subst hi;simp at hy;subst hy;refine ⟨n,0,_,rfl,rfl,fun j c hj => ?_,rfl⟩;rw [show 0+(0 * 1+j)=j by omega];exact cell_at h j c (by simpa using hj)⟩
set_option maxHeartbeats 4000000 in
set_option maxRecDepth 100000 in
theorem draw1_any {B gb rb mb:Nat} {p:ByteArray} {hv bv:Value} {G:Gr} (z:Lt) (A:Option Addr) (c:Nat) (Al:Option Addr) (l cl:Nat) (Ad:Option Addr) (d cd:Nat) (w:World) (h:DrSt B w gb rb mb p hv bv G) (hB:B≤w.heap.size) (hp:p.size≤140737488351232) (hzp:z.p.size≤140737488351232) (hin:p ∈ G.names) (hes:(sucs G p).length≤1000000000) :
    Calls Tryz.prog 95 #[.agg (z.cs (.slice A z.a.length c) (.slice Al l cl) (.slice Ad d cd)).toArray,.pointer (some ⟨gb,0,none⟩),.pointer (some ⟨rb,0,none⟩)] w fun e w' => (∃ u,e = .returned u)∧DrSt B w' gb rb mb p hv bv (stepG p G z)∧Only (fun k => B≤k) w w':=by
 have hbx:=heap_alloc_new w (.cells (z.cs (.slice A z.a.length c) (.slice Al l cl) (.slice Ad d cd)).toArray 120);have k1:=cell_at hbx 1 (.string z.p) rfl;have hbl:=(Array.getElem?_eq_some_iff.1 hbx).1;generalize hcs:z.cs (.slice A z.a.length c) (.slice Al l cl) (.slice Ad d cd)=cs at *;have f0:=Fut.alloc w (.cells cs.toArray 120);have g1:=h.fut f0;have x0:=cell_at g1.r 0 (.string p) rfl;have x1:=cell_at g1.g 0 (.map (some mb)) rfl;obtain ⟨v,hN,HLk,HPs⟩:=g1.gr.push (t:=z.p) hp hzp hin;obtain ⟨Av,cv,rfl,_,_⟩:=hN.rep.form;have hs0:=f0.size;obtain ⟨l9,hm9⟩:=g1.gr.mapE
 have sepb:∀ {j:Nat} {a:Array Value} {t:TypeId},(w.alloc (.cells cs.toArray 120)).heap[j]?=some (.cells a t (0,0))→t≠9→¬ (Value.slice Av (sucs G p).length cv).ownBlock=some j:=fun hj ht e => by
  obtain ⟨arr,h9⟩:=hN.typed _ e;exact other_block hj h9 ht rfl
 have sr:=sepb g1.r (by decide);have sg:=sepb g1.g (by decide);have sb:=sepb hbx (by decide);have mr:=map_ne hm9 g1.r;have mg:=map_ne hm9 g1.g;have mx:=map_ne hm9 hbx;clear hcs hbx hm9 sepb;have HL:=Hh HLk;have HP:=Hh HPs;have HN:=Hh hN;have G1:=Hh g1;have F0:=Hh f0;clear HLk HPs hN g1 f0 h;go_enter Tryz.func95,Tryz.ntmps95;go_wp2_with fail
 letI i1:On.Mut:=On.Mut.one 11 (Only (fun k => (Value.slice Av (sucs G p).length cv).ownBlock=some k)) Only.fut Only.trans
 refine On.wp_graph 12 [.d,.d,.d,.d,.d,.d,.d,.d,.d,.d,.r (fun u W => ∃ n,(w.alloc (.cells cs.toArray 120)).heap.size≤n∧u = .slice (some ⟨n,0,none⟩) 1 1∧W.heap[n]?=some (.cells #[.string z.p] 9 (0,0))),.r (fun u W => Nms B W u (sucs G p++[z.p])∧∀ k,u.ownBlock=some k→(Value.slice Av (sucs G p).length cv).ownBlock=some k∨(w.alloc (.cells cs.toArray 120)).heap.size≤k)] (by kernel_rfl) (by kernel_rfl) (by kernel_rfl) (.inr fun _ _ => trivial) On.one_dep ?_;simp only [takS,Exs]
 iterate 10 apply Exists.intro
 iterate 10
  apply On.Run.valG (.inr fun _ _ => trivial) (wanted_none rfl _)
  ·intro w1 h1 hk;have hg:Only (fun k => (Value.slice Av (sucs G p).length cv).ownBlock=some k) (w.alloc (.cells cs.toArray 120)) w1:=(Only.fut (Fut.drew _)).trans (by first|exact h1|exact Only.fut h1);have q0:=hg.cell x0 sr;have q1:=hg.cell x1 sg;have q2:=hg.cell k1 sb;have q3:=HL.out _ hg;go_simp;rfl
  simp only [actS]
 apply On.Run.valR (.inr fun _ _ => trivial) (wanted_none rfl _) (by intro v w w' hf hs;exact (by obtain ⟨n,a1,a2,a3⟩:=hs;exact ⟨n,a1,a2,(show Only (fun k => (Value.slice Av (sucs G p).length cv).ownBlock=some k) _ _ from by first|exact hf|exact Only.fut hf).keeps a3 (fun e => by have:=(HN.out.block n e).2;omega)⟩))
 ·intro w1 h1 hk;have hg:Only (fun k => (Value.slice Av (sucs G p).length cv).ownBlock=some k) (w.alloc (.cells cs.toArray 120)) w1:=(Only.fut (Fut.drew _)).trans (by first|exact h1|exact Only.fut h1);have q0:=hg.cell x0 sr;have q1:=hg.cell x1 sg;have q2:=hg.cell k1 sb;have q3:=HL.out _ hg;go_simp;exact ⟨_,_,⟨rfl,rfl⟩,Fut.alloc _ _,_,by have:=hg.size;simpa using this,rfl,heap_alloc_new _ _⟩
 intro v10;simp only [actS];apply On.Run.mutVR (.inr fun _ _ => trivial) (wanted_none rfl _) (by intro v w w' hf hs;exact ⟨hs.1.fut RNm.stays (show Fut _ _ from hf),hs.2⟩)
 ·intro w1 h1 hk;have f10:=Facts.get hk 0 rfl (by kernel_rfl);have hg:Only (fun k => (Value.slice Av (sucs G p).length cv).ownBlock=some k) (w.alloc (.cells cs.toArray 120)) w1:=(Only.fut (Fut.drew _)).trans (by first|exact h1|exact Only.fut h1);have q0:=hg.cell x0 sr;have q1:=hg.cell x1 sg;have q2:=hg.cell k1 sb;have q3:=HL.out _ hg;obtain ⟨n,a1,rfl,a3⟩:=f10;refine exec_append_goal (B:=B) (t:=z.p) (xs:=sucs G p) (v:=.slice Av (sucs G p).length cv) rfl rfl rfl (HN.out.fut RNm.stays ((Fut.drew _).trans h1)) (nmBlock a3) (by omega) (by have:=hg.size;omega) (fun v' w' e2 e3 e4 => ⟨On.Eff.one (Only.grown e3 fun k hk => hk),e2,fun k hk => ?_⟩);rcases e4 with e|e;exact .inl (e ▸ hk);exact .inr (Nat.le_trans hg.size (e k hk))
 intro v11;simp only [actS];apply On.Run.done;intro w2 h2 hk hJ;obtain ⟨f10,f11,_⟩:=hk;obtain ⟨hN3,hnew⟩:=f11;have hO2:Only (fun k => (Value.slice Av (sucs G p).length cv).ownBlock=some k) (w.alloc (.cells cs.toArray 120)) w2:=(Only.fut (Fut.drew _)).trans (show Only (fun k => (Value.slice Av (sucs G p).length cv).ownBlock=some k) _ _ from h2);obtain ⟨w3,hr,hG3,hO3⟩:=HP.out w2 v11 hO2 hN3 hnew;obtain ⟨A8,c8,rfl,_,_⟩:=hN3.rep.form;have gd:=G1.out;have b1:=hO3.keeps gd.r (by rintro (e|e);exact mr e.symm;exact sr e);have b2:=hO3.keeps gd.g (by rintro (e|e);exact mg e.symm;exact sg e);have b3:=hO3.cell k1 (by rintro (e|e);exact mx e.symm;exact sb e);have c2:=cell_at b2 0 (.map (some mb)) rfl
 have OA:Only (fun k => B≤k) w w3:=(Only.fut F0.out).trans (hO3.mono fun k _ hk => by
  rcases hk with hk|hk
  ·rw [hk];exact gd.gr.ge
  ·exact (HN.out.block k hk).1)
 replace OA:=Hh OA;have HB1:=Hh b1;have HB2:=Hh b2;obtain ⟨G2,hG2⟩:∃ G2,pushG G p z.p=G2:=⟨_,rfl⟩
 have hst:stepG p G z=addG G2 z.p:=by unfold stepG;rw [hG2]
 replace hst:=Hh hst;rw [hG2] at hG3;obtain ⟨v2,hN2,hL2⟩:=hG3.look hzp;have hL2':=(hL2 w3 (Fut.refl _)).2;obtain ⟨A9,c9,rfl,_,_⟩:=hN2.rep.form;clear i1 h2 hO2 hO3 hnew f10 hN3 gd b1 b2 k1 x0 x1 HP HL HN hL2 hN2 sr sg sb mr mg mx G1 F0 hJ;refine wpList_mapG (wanted_none rfl _) _ _ _ rfl rfl rfl rfl hr ?_;clear hr
 by_cases hin2:z.p ∈ G2.names
 ·have ha:addG G2 z.p=G2:=by unfold addG;rw [if_pos hin2]
  rw [decide_eq_true hin2] at hL2';have HG3:=Hh (show DrSt B w3 gb rb mb p hv bv (stepG p G z) from by rw [hst.out,ha];exact ⟨HB1.out,HB2.out,hG3⟩);clear hG3 hin2 ha hst hG2;go_wp2;go_end0;exact ⟨⟨_,rfl⟩,HG3.out,OA.out⟩
 ·rw [decide_eq_false hin2] at hL2';obtain ⟨w4,hr4,hg4,hG4⟩:=hG3.add hzp hin2;obtain ⟨l9,hm9⟩:=hG3.mapE;have O4:Only (fun k => k=mb) w3 w4:=Only.grown hg4 fun k hk => (Option.some.inj hk).symm;have HD:=Hh (show DrSt B w4 gb rb mb p hv bv (stepG p G z) from by rw [hst.out];exact ⟨O4.keeps HB1.out fun e => map_ne hm9 HB1.out e.symm,O4.keeps HB2.out fun e => map_ne hm9 HB2.out e.symm,hG4⟩);have OB:=Hh (OA.out.trans (O4.mono fun k _ hk => by rw [hk];exact hG3.ge));clear O4 hm9 hg4 hG4 hG3 hin2 hst hG2 OA;go_wp2;go_end0;exact ⟨⟨_,rfl⟩,HD.out,OB.out⟩
theorem filt_fold {l:List Lt} {k:Nat} (hk:k<l.length) (p:ByteArray) (G:Gr):((l.take (k+1)).filter Lt.isA).foldl (stepG p) G=if l[k].isA=true then stepG p (((l.take k).filter Lt.isA).foldl (stepG p) G) l[k] else ((l.take k).filter Lt.isA).foldl (stepG p) G:=by
 rw [List.take_succ_eq_append_getElem hk,List.filter_append,List.foldl_append];cases h:l[k].isA <;> simp [h]
theorem step_in {p x:ByteArray} {G:Gr} {z:Lt} (h:x ∈ G.names):x ∈ (stepG p G z).names:=by
 unfold stepG;refine addG_mono ?_;rw [pushG_names];exact h
theorem step_len {p:ByteArray} {G:Gr} {z:Lt} (hn:G.names.Nodup) {n:Nat} (h:∀ s,(sucs G s).length≤n):∀ s,(sucs (stepG p G z) s).length≤n+1:=fun s => by
 unfold stepG;rw [sucs_add (by rw [pushG_names];exact hn)];have h1:=sucs_push_len hn p z.p s;have h2:=h s;omega
theorem call_draw1:∀ args W,(callFunc 95 args).run Tryz.prog W = .ok (.enter 95 args) W:=fun args W => by kernel_rfl
theorem draws_of {wC:World} {gb rb mb:Nat} (r:Ru) (Ah Ab:Option Addr) (ch cb:Nat) (G:Gr) (N0:Nat) (w:World) (hf:Fut wC w) (hp:r.p.size≤140737488351232) (h2:SlRep 16 651562446089 RLt wC (.slice Ab r.b.length cb) r.b) (hN:N0+r.b.length≤100000000) (hin:r.p ∈ G.names) (hl:∀ s,(sucs G s).length≤N0)
    (h0:DrSt wC.heap.size w gb rb mb r.p (.slice Ah r.h.length ch) (.slice Ab r.b.length cb) G) :
    Calls Tryz.prog 94 #[.slice Ab r.b.length cb,.func (.func 95) #[] #[.pointer (some ⟨gb,0,none⟩),.pointer (some ⟨rb,0,none⟩)]] w fun e w' => (∃ u,e = .returned u)∧Fut wC w'∧DrSt wC.heap.size w' gb rb mb r.p (.slice Ah r.h.length ch) (.slice Ab r.b.length cb) ((r.b.filter Lt.isA).foldl (stepG r.p) G)∧∀ s,(sucs ((r.b.filter Lt.isA).foldl (stepG r.p) G) s).length≤N0+r.b.length:=by
 refine (atoms_any (fun k W => (Fut wC W∧DrSt wC.heap.size W gb rb mb r.p (.slice Ah r.h.length ch) (.slice Ab r.b.length cb) (((r.b.take k).filter Lt.isA).foldl (stepG r.p) G))∧r.p ∈ (((r.b.take k).filter Lt.isA).foldl (stepG r.p) G).names∧∀ s,(sucs (((r.b.take k).filter Lt.isA).foldl (stepG r.p) G) s).length≤N0+k) Ab cb r.b w _ _ (by omega) call_draw1 (fun k W h => h2.fut RLt.stays h.1.1) (fun k W W' h hw => ⟨⟨h.1.1.trans hw,h.1.2.fut hw⟩,h.2⟩) (fun k hk W h ha => ?_) (fun k hk W A' c' Al l cl Ad d cd h ha hc => ?_) ⟨⟨hf,h0⟩,hin,fun s => hl s⟩).mono ?_
 ·rw [filt_fold hk,if_neg (by rw [ha];decide)];exact ⟨h.1,h.2.1,fun s => Nat.le_trans (h.2.2 s) (by omega)⟩
 ·obtain ⟨⟨hF,h9⟩,h8,h7⟩:=h;refine (draw1_any r.b[k] A' c' Al l cl Ad d cd W h9 hF.size hp hc.pw h8 (by have:=h7 r.p;omega)).mono ?_;rintro e W' ⟨hu,hD,hO⟩;rw [filt_fold hk,if_pos ha];exact ⟨hu,⟨((Only.fut hF).trans hO).toFut (fun k hk => hk),hD⟩,step_in h8,fun s => by have:=step_len (p:=r.p) (z:=r.b[k]) h9.gr.nodup h7 s;omega⟩
 ·rintro e w' ⟨hu,⟨hF,h9⟩,_,h7⟩;rw [List.take_length] at h9 h7;exact ⟨hu,hF,h9,h7⟩
theorem bsum_le:∀ l:List Ru,(l.map (·.b.length)).sum≤(l.map Ru.parts).sum
 | [] => by simp
 | r :: rs => by
  rw [List.map_cons,List.map_cons,List.sum_cons,List.sum_cons,Ru.parts_eq];have:=bsum_le rs;omega
theorem bsum_take {l:List Ru} {k:Nat} (hk:k<l.length):((l.take (k+1)).map (·.b.length)).sum=((l.take k).map (·.b.length)).sum+l[k].b.length:=by
 rw [List.take_succ_eq_append_getElem hk,List.map_append,List.sum_append];simp
theorem bsum_take_le (l:List Ru) (k:Nat):((l.take k).map (·.b.length)).sum≤(l.map (·.b.length)).sum:=by
 conv => rhs;rw [← List.take_append_drop k l]
 rw [List.map_append,List.sum_append];omega
def DrawI (w:World) (gb mb:Nat) (W:World) (G:Gr) (n:Nat):Prop:=W.heap[gb]?=some (.cells #[.map (some mb)] tG (0,0))∧GrI w.heap.size W mb G∧∀ s,(sucs G s).length≤n
set_option maxHeartbeats 4000000 in
set_option maxRecDepth 100000 in
theorem draw_any {M:Nat} (A:Option Addr) (c:Nat) (rs:List Ru) (w:World) (h:SlRep 3 M RRu w (.slice A rs.length c) rs) (hM:M≤9223372036854775807) (hS:Small rs) :
    Calls Tryz.prog 33 #[.agg #[.slice A rs.length c]] w fun e w' => ∃ mb,e = .returned (.map (some mb))∧GrI w.heap.size w' mb (drawP rs)∧Fut w w':=by
 obtain ⟨_,_,hv,hl1,hl2⟩:=h.form;have hxl:rs.length≤9223372036854775807:=by omega
 have H:=Hh h;have HS:=Hh (show (rs.map (·.b.length)).sum≤10000000 from Nat.le_trans (bsum_le rs) hS);clear h hS hl1 hl2 hv;have hbx:=heap_alloc_new w (.cells #[.slice A rs.length c] 28);have f0:=Fut.alloc w (.cells #[.slice A rs.length c] 28);have hsz0:(w.alloc (.cells #[.slice A rs.length c] 28)).heap.size=w.heap.size+1:=by simp
 have hm:=MapE.new (kv:=strV) (w.alloc (.cells #[.slice A rs.length c] 28));have f1:=Fut.alloc (w.alloc (.cells #[.slice A rs.length c] 28)) (.map #[] 0);have hsz1:((w.alloc (.cells #[.slice A rs.length c] 28)).alloc (.map #[] 0)).heap.size=w.heap.size+2:=by simp
 rw [hsz0] at hm;have hgb:=heap_alloc_new ((w.alloc (.cells #[.slice A rs.length c] 28)).alloc (.map #[] 0)) (.cells #[.map (some (w.heap.size+1))] tG);rw [hsz1] at hgb;have f2:=Fut.alloc ((w.alloc (.cells #[.slice A rs.length c] 28)).alloc (.map #[] 0)) (.cells #[.map (some (w.heap.size+1))] tG);have c0:=cell_at ((f1.trans f2).block hbx) 0 (.slice A rs.length c) rfl
 have HI:=Hh (show DrawI w (w.heap.size+2) (w.heap.size+1) (((w.alloc (.cells #[.slice A rs.length c] 28)).alloc (.map #[] 0)).alloc (.cells #[.map (some (w.heap.size+1))] tG)) ((rs.take 0).foldl drawR []) (((rs.take 0).map (·.b.length)).sum) from
  ⟨hgb,⟨[],rfl,hm.fut f2,fun i v x hv => by simp at hv,fun i j v u k hv => by simp at hv,fun x hx => (by cases hx),by omega⟩,fun s => by simp [sucs]⟩)
 have HF0:=Hh ((f0.trans f1).trans f2);clear hbx f0 hsz0 hm f1 hsz1 hgb f2;have hmm:=@run_makeMap Tryz.prog;go_enter Tryz.func33,Tryz.ntmps33;go_wp2_with fail;clear hmm c0;go_loopw [12] (fun i wr => ∃ k:Nat,k≤rs.length∧i = .int .i64 k∧Hid (Fut w wr)∧Hid (DrawI w (w.heap.size+2) (w.heap.size+1) wr ((rs.take k).foldl drawR []) (((rs.take k).map (·.b.length)).sum))) (fun i _ => rs.length - (intOf i).toNat)
 case atStart => exact ⟨0,Nat.zero_le _,rfl,HF0,HI⟩
 case round =>
  obtain ⟨k,hk,rfl,hF,hI⟩:=hrel
  by_cases hlt:k<rs.length
  ·have hltI:(k:Int)<rs.length:=by omega
   have e0:(0:Int)≤k∧(k:Int)<rs.length:=by omega
   obtain ⟨b',off,Ah,ch,Ab,cb,rfl,u0,u1,u2,hp,hh1,hh2⟩:=ru_at H.out hlt;have hnx:=Hh (show (rs.take (k+1)).foldl drawR []=drawR ((rs.take k).foldl drawR []) rs[k] by rw [List.take_succ_eq_append_getElem hlt,List.foldl_append];rfl);have hnb:=Hh (bsum_take hlt);have hle:=bsum_take_le rs (k+1);rw [hnb.out] at hle;have hSo:=HS.out;generalize rs[k]=r at *;have hcs9:=Hh (three_cells (hF.out.cell u0) (hF.out.cell u1) (hF.out.cell u2));obtain ⟨N0,hN0⟩:∃ n,((rs.take k).map (·.b.length)).sum=n:=⟨_,rfl⟩
   obtain ⟨G,hG⟩:∃ G,(rs.take k).foldl drawR []=G:=⟨_,rfl⟩
   rw [hN0] at hI hnb hle;rw [hG] at hI hnx;obtain ⟨i1,i2,i3⟩:=hI.out;obtain ⟨w2,hw2⟩:∃ W,wr.alloc (.cells [.string r.p,.slice Ah r.h.length ch,.slice Ab r.b.length cb].toArray 82)=W:=⟨_,rfl⟩
   have f1:Fut wr w2:=by rw [← hw2];exact Fut.alloc _ _
   have hrb:w2.heap[wr.heap.size]?=some (.cells #[.string r.p,.slice Ah r.h.length ch,.slice Ab r.b.length cb] 82 (0,0)):=by rw [← hw2];exact heap_alloc_new wr _
   have q0:=cell_at hrb 0 (.string r.p) rfl;have q2:=cell_at hrb 2 (.slice Ab r.b.length cb) rfl;have qg:=cell_at (f1.block i1) 0 (.map (some (w.heap.size+1))) rfl;have D2:DrSt w.heap.size w2 (w.heap.size+2) wr.heap.size (w.heap.size+1) r.p (.slice Ah r.h.length ch) (.slice Ab r.b.length cb) G:=⟨hrb,f1.block i1,i2.fut f1⟩
   obtain ⟨v2,hN2,hL2⟩:=D2.gr.look hp;have hL2':=(hL2 w2 (Fut.refl _)).2;obtain ⟨A9,c9,rfl,_,_⟩:=hN2.rep.form
   have hone:∀ v ∈ ([.string r.p,.slice Ah r.h.length ch,.slice Ab r.b.length cb]:List Value),v.oneCell'=true:=fun v hv => by
    simp only [List.mem_cons,List.not_mem_nil,or_false] at hv;rcases hv with rfl|rfl|rfl <;> rfl
   have F2:=hF.out.trans f1;have hw2h:=Hh hw2;clear hw2 f1 hrb i1 i2 hI hN2 hL2 u0 u1 u2 hG hN0
   have fin:∀ w3,Fut w w3→DrSt w.heap.size w3 (w.heap.size+2) wr.heap.size (w.heap.size+1) r.p (.slice Ah r.h.length ch) (.slice Ab r.b.length cb) (addG G r.p)→Calls Tryz.prog 94 #[.slice Ab r.b.length cb,.func (.func 95) #[] #[.pointer (some ⟨w.heap.size+2,0,none⟩),.pointer (some ⟨wr.heap.size,0,none⟩)]] w3 fun e w' => (∃ u,e = .returned u)∧Fut w w'∧DrawI w (w.heap.size+2) (w.heap.size+1) w' ((rs.take (k+1)).foldl drawR []) (((rs.take (k+1)).map (·.b.length)).sum):=fun w3 hf3 hd3 => by
    refine (draws_of r Ah Ab ch cb (addG G r.p) N0 w3 hf3 hp hh2 (by omega) addG_in (fun s => by rw [sucs_add D2.gr.nodup];exact i3 s) hd3).mono ?_;rintro e w' ⟨hu,hF',hD',hl'⟩;refine ⟨hu,hF',?_⟩;rw [hnx.out,hnb.out];exact ⟨hD'.g,hD'.gr,hl'⟩
   replace fin:=Hh fin
   by_cases hin:r.p ∈ G.names
   ·rw [decide_eq_true hin] at hL2';have ha:addG G r.p=G:=by unfold addG;rw [if_pos hin]
    have HC:=Hh (fin.out w2 F2 (by rw [ha];exact D2));clear ha hin D2 F2 hp hh1 hh2;go_wp2_with (first|(refine wpList_rangeBox [.string r.p,.slice Ah r.h.length ch,.slice Ab r.b.length cb] rfl rfl rfl rfl rfl rfl rfl hcs9.out Tryz.underlying82 infoRu rfl hone rfl rfl hw2h.out ?_));refine HC.out.mono ?_;rintro e w6 ⟨⟨u,rfl⟩,hF6,hE6⟩;replace hF6:=Hh hF6;replace hE6:=Hh hE6;clear HC;go_wp2;go_roundw
    case rel => exact ⟨k+1,by omega,by go_num,hF6,hE6⟩
    case measure => simp [intOf] <;> omega
   ·rw [decide_eq_false hin] at hL2';obtain ⟨w4,hr4,hg4,hG4⟩:=D2.gr.add hp hin;obtain ⟨l9,hm9⟩:=D2.gr.mapE;have O4:Only (fun k => k=w.heap.size+1) w2 w4:=Only.grown hg4 fun k hk => (Option.some.inj hk).symm;have D4:DrSt w.heap.size w4 (w.heap.size+2) wr.heap.size (w.heap.size+1) r.p (.slice Ah r.h.length ch) (.slice Ab r.b.length cb) (addG G r.p):=⟨O4.keeps D2.r fun e => map_ne hm9 D2.r e.symm,O4.keeps D2.g fun e => map_ne hm9 D2.g e.symm,hG4⟩
    have O5:Only (fun k => w.heap.size≤k) w w4:=(Only.fut F2).trans (O4.mono fun k _ hk => by omega);have q2':=cell_at D4.r 2 (Value.slice Ab r.b.length cb) rfl;have HC:=Hh (fin.out w4 (O5.toFut fun k hk => hk) D4);clear hin D2 F2 hp hh1 hh2 hg4 hG4 hm9 O4 D4 O5;go_wp2_with (first|(refine wpList_rangeBox [.string r.p,.slice Ah r.h.length ch,.slice Ab r.b.length cb] rfl rfl rfl rfl rfl rfl rfl hcs9.out Tryz.underlying82 infoRu rfl hone rfl rfl hw2h.out ?_));refine HC.out.mono ?_;rintro e w6 ⟨⟨u,rfl⟩,hF6,hE6⟩;replace hF6:=Hh hF6;replace hE6:=Hh hE6;clear HC;go_wp2;go_roundw
    case rel => exact ⟨k+1,by omega,by go_num,hF6,hE6⟩
    case measure => simp [intOf] <;> omega
  ·obtain rfl:k=rs.length:=by omega
   rw [List.take_length] at hI;obtain ⟨i1,i2,i3⟩:=hI.out;have y1:=cell_at i1 0 (.map (some (w.heap.size+1))) rfl;replace i2:=Hh i2;clear hI i1 i3;go_wp2;go_ret;exact ⟨_,rfl,i2.out,hF.out⟩
end Go.Proofs.YtobabnpllokkaaaGreatDoor
