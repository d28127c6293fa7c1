/- Parts. -/
import Derived.Test.YtobabnpllokkaaaGreatDoorP20
import Derived.Test.YtobabnpllokkaaaGreatDoorP11
import Derived.Test.YtobabnpllokkaaaGreatDoorP18
import Derived.Test.YtobabnpllokkaaaGreatDoorP00
set_option linter.unusedSimpArgs false
set_option linter.unusedVariables false
namespace Go.Proofs.YtobabnpllokkaaaGreatDoor
open Go.RowKit Go.WideMaps Go.Maps
def slen:Value→Nat
 | .slice _ n _ => n
 | _ => 0
theorem rg7_fut {w w':World} {b o:Nat} {cs:List Value} (h:w.rangeAt b o cs) (hf:Fut w w'):w'.rangeAt b o cs:=fun j v hj => hf.cell (h j v hj)
theorem takesD_no {L:List ByteArray} {x:Lt} (h:¬ (x.k=3∧x.r=1)):takesD L x=L:=if_neg h
theorem takesD_l {L:List ByteArray} {x:Lt} (h:x.k=3∧x.r=1) (hg:givesB x.l x.d L=true):takesD L x=L++[x.l.lone]:=by
 unfold takesD;rw [if_pos h];unfold givesB at hg;rw [Bool.and_eq_true,Bool.and_eq_true] at hg;have h1:x.eqn.byL L:=⟨of_decide_eq_true hg.1.1,(fun h9 => by have h8:=hg.1.2;rw [decide_eq_true (show x.l.lone ∈ L from h9)] at h8;exact (nomatch h8)),hg.2⟩
 rw [Eqn.takes_l h1];rfl
theorem not_byL {L:List ByteArray} {x:Lt} (hg:givesB x.l x.d L=false):¬ x.eqn.byL L:=fun h => by
 have h1:givesB x.l x.d L=true:=by
  unfold givesB;have a:decide (x.l.lone.toList≠[])=true:=decide_eq_true h.1;have b:decide (x.l.lone ∈ L)=false:=decide_eq_false h.2.1;have c:allIn L x.d.vars=true:=h.2.2;rw [a,b,c];rfl
 rw [h1] at hg;cases hg
theorem takesD_r {L:List ByteArray} {x:Lt} (h:x.k=3∧x.r=1) (hn:givesB x.l x.d L=false) (hg:givesB x.d x.l L=true):takesD L x=L++[x.d.lone]:=by
 unfold takesD;rw [if_pos h];unfold givesB at hg;rw [Bool.and_eq_true,Bool.and_eq_true] at hg;have h1:x.eqn.byR L:=⟨of_decide_eq_true hg.1.1,(fun h9 => by have h8:=hg.1.2;rw [decide_eq_true (show x.d.lone ∈ L from h9)] at h8;exact (nomatch h8)),hg.2⟩
 rw [Eqn.takes_r (not_byL hn) h1];rfl
theorem takesD_none {L:List ByteArray} {x:Lt} (h:x.k=3∧x.r=1) (hn:givesB x.l x.d L=false) (hg:givesB x.d x.l L=false):takesD L x=L:=by
 unfold takesD;rw [if_pos h]
 have h1:¬ x.eqn.byR L:=fun h => by
  have h1:givesB x.d x.l L=true:=by
   unfold givesB;have a:decide (x.d.lone.toList≠[])=true:=decide_eq_true h.1;have b:decide (x.d.lone ∈ L)=false:=decide_eq_false h.2.1;have c:allIn L x.l.vars=true:=h.2.2;rw [a,b,c];rfl
  rw [h1] at hg;cases hg
 rw [Eqn.takes_no (not_byL hn) h1]
theorem takesD_len (L:List ByteArray) (x:Lt):(takesD L x).length≤L.length+1:=by
 unfold takesD
 split
 ·unfold Eqn.takes
  split
  ·simp
  ·split
   ·simp
   ·simp
 ·simp
theorem roundD_len:∀ (b:List Lt) (L:List ByteArray),(roundD b L).length≤L.length+b.length
 | [],L => by simp [roundD]
 | x :: r,L => by
  have h1:=roundD_len r (takesD L x);have h2:=takesD_len L x;show (roundD r (takesD L x)).length≤_;rw [List.length_cons];omega
theorem Lt.ex_left {w:World} {cs:List Value} {x:Lt} (h:RLt w cs x):(∃ n cl,RE n w cl x.l∧∀ j v,cl[j]?=some v→cs[4+j]?=some v)∧∃ n cd,RE n w cd x.d∧∀ j v,cd[j]?=some v→cs[10+j]?=some v:=by
 obtain ⟨av,cl,cd,rfl,_,_,_,_,hp,ha,⟨n1,h1⟩,⟨n2,h2⟩⟩:=h;obtain ⟨_,_,_,ks1,A1,c1,_,_,rfl,_,_,_⟩:=ex_form h1;obtain ⟨_,_,_,ks2,A2,c2,_,_,rfl,_,_,_⟩:=ex_form h2;refine ⟨⟨n1,_,h1,fun j v hj => ?_⟩,⟨n2,_,h2,fun j v hj => ?_⟩⟩
 ·match j,hj with
  | 0,hj => exact hj
  | 1,hj => exact hj
  | 2,hj => exact hj
  | 3,hj => exact hj
  | 4,hj => exact hj
  | 5,hj => exact hj
  | j+6,hj => simp at hj
 ·match j,hj with
  | 0,hj => exact hj
  | 1,hj => exact hj
  | 2,hj => exact hj
  | 3,hj => exact hj
  | 4,hj => exact hj
  | 5,hj => exact hj
  | j+6,hj => simp at hj
set_option maxHeartbeats 4000000 in
set_option maxRecDepth 100000 in
theorem rlimited_any {M:Nat} (A:Option Addr) (c:Nat) (xb:List Lt) (w:World) (h:SlRep 16 M RLt w (.slice A xb.length c) xb) (hM:M≤9223372036854775807) (hl1:xb.length≤400000000) (hl2:(xb.flatMap Lt.vs).length≤400000000) :
    Calls Tryz.prog 261 #[.slice A xb.length c] w fun e w' => ∃ v,e = .returned v∧Nms w.heap.size w' v (limitsB xb)∧Fut w w':=by
 have HA:=Hh (ratoms_any A c xb w h hM (by omega));have hal:=atomsD_len xb;have hel:=eqnsB_len xb;have H:=Hh h;have HL2:=Hh hl2;have hst:=Hh (LimD.start xb);obtain ⟨C,hC⟩:∃ C,(atomsD xb).length+(eqnsB xb).length=C:=⟨_,rfl⟩
 have hCl:C≤1000000000:=by omega
 have hCs:=Hh hC;clear h hal hel hl2 hC;generalize atomsD xb=a0 at *;generalize (eqnsB xb).length=n0 at *;obtain ⟨Lx,hLx⟩:∃ x,limitsB xb=x:=⟨_,rfl⟩
 rw [hLx];replace hLx:=Hh hLx;go_enter Tryz.func261,Tryz.ntmps261;go_wp2_with fail;refine HA.out.mono ?_;rintro e w1 ⟨v1,rfl,o1,f1⟩;have O1:=Hh o1;have F1:=Hh f1;clear o1 f1 HA;go_wp2_with fail;go_loopw [3,4,5,6,7,8] (fun u _ _ _ _ _ wr => ∃ L n,Hid (Nms w.heap.size wr u L)∧Hid (Fut w wr)∧Hid (LimD xb L n)∧Hid (L.length+n=C)) (fun u _ _ _ _ _ _ => C - slen u)
 case atStart => exact ⟨_,_,O1,F1,hst,hCs⟩
 case round =>
  clear O1 F1 hst hCs;obtain ⟨L,n,hO,hF,hD,hS⟩:=hrel;obtain ⟨wq,rfl⟩:∃ x,x=wr:=⟨_,rfl⟩
  obtain ⟨Au,cu,rfl,_,_⟩:=hO.out.rep.form;have hRd:=Hh hD.out.round;have hLl:L.length≤1000000000:=by have:=hS.out;omega
  have HI0:=Hh (show Nms w.heap.size wq (.slice Au L.length cu) (roundD (xb.take 0) L) from hO.out);clear hD hO;obtain ⟨nl,hnl⟩:∃ q,L.length=q:=⟨_,rfl⟩
  rw [hnl] at hS hLl hRd HI0 ⊢;replace hnl:=Hh hnl;go_wp2_with fail;go_loopw [3,5,6,7,8] (fun u i _ _ _ W => ∃ k:Nat,k≤xb.length∧i = .int .i64 k∧Hid (Nms w.heap.size W u (roundD (xb.take k) L))∧Hid (Fut w W)) (fun _ i _ _ _ _ => xb.length - (intOf i).toNat)
  case atStart => exact ⟨0,Nat.zero_le _,rfl,HI0,hF⟩
  case round =>
   clear HI0 hF;obtain ⟨k,hk,rfl,hI,hF⟩:=hrel
   by_cases hlt:k<xb.length
   ·have hltI:(k:Int)<xb.length:=by omega
    have e0:(0:Int)≤k∧(k:Int)<xb.length:=by omega
    obtain ⟨b',off,A',c2,Al,l',cl,Ad,d',cd,rfl,hcs,_,_,g3⟩:=lt_at (H.out.fut RLt.stays hF.out) hlt;have hnx:=Hh (show roundD (xb.take (k+1)) L=takesD (roundD (xb.take k) L) xb[k] by unfold roundD;rw [List.take_succ_eq_append_getElem hlt,List.foldl_append];rfl);have hlen:=roundD_len (xb.take k) L;rw [List.length_take,hnl.out] at hlen;have hza:=args_len xb hlt;have hz2:=HL2.out;generalize xb[k]=z at *;have hzs:z.l.size≤1000000000∧z.d.size≤1000000000:=by omega
    obtain ⟨L1,hL1⟩:∃ G,roundD (xb.take k) L=G:=⟨_,rfl⟩
    rw [hL1] at hI hnx hlen;replace hlen:L1.length≤2000000000:=by omega
    clear hL1 hza hz2;have hrl:=g3.rlt;obtain ⟨⟨n1,cx1,hx1,hj1⟩,⟨n2,cx2,hx2,hj2⟩⟩:=Lt.ex_left hrl;obtain ⟨wb,hwb⟩:∃ W,W=wr.alloc (.cells (z.cs (.slice A' z.a.length c2) (.slice Al l' cl) (.slice Ad d' cd)).toArray 120):=⟨_,rfl⟩
    have f0:Fut wr wb:=by rw [hwb];exact Fut.alloc _ _
    have hbx:wb.heap[wr.heap.size]?=some (.cells (z.cs (.slice A' z.a.length c2) (.slice Al l' cl) (.slice Ad d' cd)).toArray 120 (0,0)):=by rw [hwb];exact heap_alloc_new _ _
    replace hwb:=Hh hwb;have hFb:=Hh (hF.out.trans f0);have hIb:=Hh (hI.out.fut RNm.stays f0);have c0:=cell_at hbx 0 (.int .i8 z.k) rfl;have c3':=cell_at hbx 3 (.int .i8 z.r) rfl;have rgL:=Hh (show wb.rangeAt wr.heap.size 4 cx1 from fun j v hj => cell_at hbx (4+j) v (by simpa using hj1 j v hj));have rgR:=Hh (show wb.rangeAt wr.heap.size 10 cx2 from fun j v hj => cell_at hbx (10+j) v (by simpa using hj2 j v hj));have hx1b:=Hh (RE.stays _ _ _ _ _ f0 hx1);have hx2b:=Hh (RE.stays _ _ _ _ _ f0 hx2);have hi6l:(Tryz.prog.info? 118).map (·.size)=some cx1.length:=by obtain ⟨_,_,_,ks1,A1,c1,_,_,rfl,_,_,_⟩:=ex_form hx1;exact infoEx6'
    have hi6r:(Tryz.prog.info? 118).map (·.size)=some cx2.length:=by obtain ⟨_,_,_,ks1,A1,c1,_,_,rfl,_,_,_⟩:=ex_form hx2;exact infoEx6'
    have hone:=Lt.cs_one z A' z.a.length c2 Al l' cl Ad d' cd;have hcs9:=Hh hcs;clear hcs f0 hI hF hbx g3 hrl hj1 hj2 hx1 hx2
    by_cases eq:z.k=3∧z.r=1
    ·obtain ⟨Aw,cw,rfl,_,_⟩:=hIb.out.rep.form;have HG1:=Hh (rgives_any z.l z.d cx1 cx2 Aw cw L1 wb hx1b.out hx2b.out hzs.2 hIb.out.rep (by decide));have HG2:=Hh (fun W (hW:Fut wb W) => rgives_any z.d z.l cx2 cx1 Aw cw L1 W (RE.stays _ _ _ _ _ hW hx2b.out) (RE.stays _ _ _ _ _ hW hx1b.out) hzs.1 (hIb.out.rep.fut RNm.stays hW) (by decide));have TL:=Hh (takesD_l (L:=L1) eq);have TR:=Hh (takesD_r (L:=L1) eq);have TN:=Hh (takesD_none (L:=L1) eq);obtain ⟨ez,er⟩:=eq;obtain ⟨q1,hq1⟩:∃ b,givesB z.l z.d L1=b:=⟨_,rfl⟩
     obtain ⟨q2,hq2⟩:∃ b,givesB z.d z.l L1=b:=⟨_,rfl⟩
     simp only [hq1] at HG1 TL TR TN;simp only [hq2] at HG2 TR TN;clear hq1 hq2;cases q1
     ·go_wp2_with (first|(refine wpList_rangeBox (z.cs (.slice A' z.a.length c2) (.slice Al l' cl) (.slice Ad d' cd)) rfl rfl rfl rfl rfl rfl rfl hcs9.out Tryz.underlying120 infoLt rfl hone rfl rfl hwb.out.symm ?_)|(show wpList _ _ _ (Oper.mk _ (Op.load 118 _) _ _ _ _ :: _) _ _;first|(refine Go.wpList_load_mid rfl _ _ rfl wr.heap.size 4 rfl _ _ rgL.out Tryz.underlying118 rfl hi6l ?_)|(refine Go.wpList_load_mid rfl _ _ rfl wr.heap.size 10 rfl _ _ rgR.out Tryz.underlying118 rfl hi6r ?_)));refine HG1.out.mono ?_;rintro e w3 ⟨⟨v3,rfl,_⟩,f3⟩;have HF3:=Hh (hFb.out.trans f3);have HI3:=Hh (hIb.out.fut RNm.stays f3);have rgL3:=Hh (rg7_fut rgL.out f3);have rgR3:=Hh (rg7_fut rgR.out f3);have HC2:=Hh (HG2.out _ f3);clear f3 HG1 HG2;cases q2
      ·go_wp2_with (first|(show wpList _ _ _ (Oper.mk _ (Op.load 118 _) _ _ _ _ :: _) _ _;first|(refine Go.wpList_load_mid rfl _ _ rfl wr.heap.size 4 rfl _ _ rgL3.out Tryz.underlying118 rfl hi6l ?_)|(refine Go.wpList_load_mid rfl _ _ rfl wr.heap.size 10 rfl _ _ rgR3.out Tryz.underlying118 rfl hi6r ?_)));refine HC2.out.mono ?_;rintro e w4 ⟨⟨v4,rfl,_⟩,f4⟩;have HF4:=Hh (HF3.out.trans f4);have HI4:=Hh (show Nms w.heap.size w4 (.slice Aw L1.length cw) (roundD (xb.take (k+1)) L) by rw [hnx.out,TN.out (by trivial) (by trivial)];exact HI3.out.fut RNm.stays f4);clear f4 HC2;go_wp2;go_roundw
       case rel => exact ⟨k+1,by omega,by go_num,HI4,HF4⟩
       case measure => simp [intOf] <;> omega
      ·go_wp2_with (first|(show wpList _ _ _ (Oper.mk _ (Op.load 118 _) _ _ _ _ :: _) _ _;first|(refine Go.wpList_load_mid rfl _ _ rfl wr.heap.size 4 rfl _ _ rgL3.out Tryz.underlying118 rfl hi6l ?_)|(refine Go.wpList_load_mid rfl _ _ rfl wr.heap.size 10 rfl _ _ rgR3.out Tryz.underlying118 rfl hi6r ?_)));refine HC2.out.mono ?_;rintro e w4 ⟨⟨v4,rfl,hv4⟩,f4⟩;obtain rfl:=hv4 (by trivial);have HF4:=Hh (HF3.out.trans f4);have HI4:=Hh (HI3.out.fut RNm.stays f4);clear f4 HC2 hv4;go_wp2_with (first|(at_builtin;refine wpList_append_LB (R:=RNm) (B:=w.heap.size) (M:=1) (xs:=L1) (ys:=[z.d.lone]) (e:=9) (by go_simp) _ _ tVl' rfl Tryz.underlying76 (.string ⟨#[]⟩) 16 infoNm rfl (by decide) RNm.one RNm.keeps rfl rfl (HI4.out.fut RNm.stays (Fut.alloc _ _)) (nmOne _ _ _) ?l3 ?m3 ?b3 ?k3))
       case l3 => simp [maxLen];omega
       case m3 => simp;omega
       case b3 => have:=HF4.out.size;simp;omega
       case k3 =>
       intro v' w' o' g' sn';have HI:=Hh (show Nms w.heap.size w' v' (roundD (xb.take (k+1)) L) by rw [hnx.out,TR.out (by trivial) (by trivial)];exact o');have HF:=Hh ((HF4.out.trans (Fut.alloc _ _)).grown g' (fun k hk => (HI4.out.block k hk).1));clear o' g' sn';go_wp2;go_roundw
       case rel => exact ⟨k+1,by omega,by go_num,HI,HF⟩
       case measure => simp [intOf] <;> omega
     ·go_wp2_with (first|(refine wpList_rangeBox (z.cs (.slice A' z.a.length c2) (.slice Al l' cl) (.slice Ad d' cd)) rfl rfl rfl rfl rfl rfl rfl hcs9.out Tryz.underlying120 infoLt rfl hone rfl rfl hwb.out.symm ?_)|(show wpList _ _ _ (Oper.mk _ (Op.load 118 _) _ _ _ _ :: _) _ _;first|(refine Go.wpList_load_mid rfl _ _ rfl wr.heap.size 4 rfl _ _ rgL.out Tryz.underlying118 rfl hi6l ?_)|(refine Go.wpList_load_mid rfl _ _ rfl wr.heap.size 10 rfl _ _ rgR.out Tryz.underlying118 rfl hi6r ?_)));refine HG1.out.mono ?_;rintro e w3 ⟨⟨v3,rfl,hv3⟩,f3⟩;obtain rfl:=hv3 (by trivial);have HF3:=Hh (hFb.out.trans f3);have HI3:=Hh (hIb.out.fut RNm.stays f3);clear f3 HG1 HG2 hv3;go_wp2_with (first|(at_builtin;refine wpList_append_LB (R:=RNm) (B:=w.heap.size) (M:=1) (xs:=L1) (ys:=[z.l.lone]) (e:=9) (by go_simp) _ _ tVl' rfl Tryz.underlying76 (.string ⟨#[]⟩) 16 infoNm rfl (by decide) RNm.one RNm.keeps rfl rfl (HI3.out.fut RNm.stays (Fut.alloc _ _)) (nmOne _ _ _) ?l3 ?m3 ?b3 ?k3))
      case l3 => simp [maxLen];omega
      case m3 => simp;omega
      case b3 => have:=HF3.out.size;simp;omega
      case k3 =>
      intro v' w' o' g' sn';have HI:=Hh (show Nms w.heap.size w' v' (roundD (xb.take (k+1)) L) by rw [hnx.out,TL.out (by trivial)];exact o');have HF:=Hh ((HF3.out.trans (Fut.alloc _ _)).grown g' (fun k hk => (HI3.out.block k hk).1));clear o' g' sn';go_wp2;go_roundw
      case rel => exact ⟨k+1,by omega,by go_num,HI,HF⟩
      case measure => simp [intOf] <;> omega
    ·have HI5:=Hh (show Nms w.heap.size wb u3 (roundD (xb.take (k+1)) L) by rw [hnx.out,takesD_no eq];exact hIb.out)
     by_cases e3:z.k=3
     ·have e4:¬ z.r=1:=fun h => eq ⟨e3,h⟩;have e4b:(z.r == 1)=false:=by rw [beq_eq_false_iff_ne];exact e4
      clear eq;go_wp2_with (first|(refine wpList_rangeBox (z.cs (.slice A' z.a.length c2) (.slice Al l' cl) (.slice Ad d' cd)) rfl rfl rfl rfl rfl rfl rfl hcs9.out Tryz.underlying120 infoLt rfl hone rfl rfl hwb.out.symm ?_));go_roundw
      case rel => exact ⟨k+1,by omega,by go_num,HI5,hFb⟩
      case measure => simp [intOf] <;> omega
     ·have e3b:(z.k == 3)=false:=by rw [beq_eq_false_iff_ne];exact e3
      clear eq;go_wp2_with (first|(refine wpList_rangeBox (z.cs (.slice A' z.a.length c2) (.slice Al l' cl) (.slice Ad d' cd)) rfl rfl rfl rfl rfl rfl rfl hcs9.out Tryz.underlying120 infoLt rfl hone rfl rfl hwb.out.symm ?_));go_roundw
      case rel => exact ⟨k+1,by omega,by go_num,HI5,hFb⟩
      case measure => simp [intOf] <;> omega
   ·obtain rfl:k=xb.length:=by omega
    rw [List.take_length] at hI;obtain ⟨m,r1,r2,r3⟩:=hRd.out;obtain ⟨R,hR⟩:∃ R,roundD xb L=R:=⟨_,rfl⟩
    rw [hR] at hI r1 r2 r3;obtain ⟨Aw,cw,rfl,_,_⟩:=hI.out.rep.form;have hSo:=hS.out;clear hR hRd
    by_cases e:R.length=nl
    ·have hX:=r2 e;have hbb:((R.length:Int) == (nl:Int))=true:=by rw [e];simp
     obtain rfl:R=Lx:=hX.trans hLx.out;clear r1 r2 r3 hX;go_wp2;go_ret;exact ⟨_,rfl,hI.out,hF.out⟩
    ·have hbb:((R.length:Int) == (nl:Int))=false:=by rw [beq_eq_false_iff_ne];omega
     obtain ⟨s1,s2⟩:=r3 e;replace s1:=Hh s1;have hs9:=Hh (show R.length+m=C by omega);have hm9:C - R.length<C - nl:=by omega
     clear r1 r2 r3;go_wp2;go_roundw
     case rel => exact ⟨R,m,hI,hF,s1,hs9⟩
     case measure => exact hm9
theorem Ru.tms_le (x:Ru) (h:x.hs.length+x.bs.length≤400000000):x.tms.length≤1000000000:=by
 have h9:(x.tms.map (·.v)).length=(x.hs++x.bs).length:=by rw [Ru.tms_vs]
 rw [List.length_map,List.length_append] at h9;omega
set_option maxHeartbeats 2000000 in
set_option maxRecDepth 100000 in
theorem rrule7_any (x:Ru) (Ah Ab:Option Addr) (ch cb:Nat) (w:World) (hp:x.p.size≤140737488351232) (h1:SlRep 5 2513169434916 RAr w (.slice Ah x.h.length ch) x.h) (h2:SlRep 16 651562446089 RLt w (.slice Ab x.b.length cb) x.b) (hl:x.hs.length+x.bs.length≤400000000) :
    Calls Tryz.prog 206 #[.agg #[.string x.p,.slice Ah x.h.length ch,.slice Ab x.b.length cb]] w fun e w' => e = .returned (.int .i64 x.errno)∧Fut w w':=by
 have HC:=Hh (fun W (hW:Fut w W) => rcheckR_any x Ah Ab ch cb W hp (h1.fut RAr.stays hW) (h2.fut RLt.stays hW) (by omega));have HV:=Hh (fun W (hW:Fut w W) => rruleVars_any x Ah Ab ch cb W (h1.fut RAr.stays hW) (h2.fut RLt.stays hW) (x.tms_le hl));have hbs:=b_le_bs x.b;have HL:=Hh (fun W (hW:Fut w W) => rlimited_any Ab cb x.b W (h2.fut RLt.stays hW) (by decide) (by unfold Ru.bs at hl;omega) (by unfold Ru.bs at hl;omega));obtain ⟨er,her⟩:∃ e,x.errno=e:=⟨_,rfl⟩
 rw [her];unfold Ru.errno Ru.safe at her;clear h1 h2 hl hbs;generalize x.vars=vars at *;generalize x.good=gd at *;generalize limitsB x.b=lim at *;generalize x.h.length=n at *;generalize x.b.length=m at *;generalize x.p=p at *;have hbx:=heap_alloc_new w (.cells #[.string p,.slice Ah n ch,.slice Ab m cb] 82);have f0:=Hh (Fut.alloc w (.cells #[.string p,.slice Ah n ch,.slice Ab m cb] 82));have x0:=cell_at hbx 0 _ rfl;have x1:=cell_at hbx 1 _ rfl;have x2:=cell_at hbx 2 _ rfl;cases gd
 ·obtain rfl:er=40:=by rw [← her];rfl
  clear her;go_enter Tryz.func206,Tryz.ntmps206;go_wp2_with fail;refine (HC.out _ f0.out).mono ?_;rintro e w1 ⟨rfl,f1⟩;go_wp2;go_ret;exact ⟨rfl,f0.out.trans f1⟩
 obtain ⟨a,ha⟩:∃ a,allIn lim vars=a:=⟨_,rfl⟩
 rw [ha] at her;go_enter Tryz.func206,Tryz.ntmps206;go_wp2_with fail;refine (HC.out _ f0.out).mono ?_;rintro e w1 ⟨rfl,f1⟩;have F1:=Hh (f0.out.trans f1);have y0:=f1.cell x0;have y1:=f1.cell x1;have y2:=f1.cell x2;clear f1 hbx x0 x1 x2 HC;go_wp2_with fail;refine wp_graph 7 [.d,.r (fun v W => Nms w.heap.size W v vars),.d,.d,.r (fun v W => Nms w.heap.size W v lim),.d,.d] (by kernel_rfl) (by kernel_rfl) (by kernel_rfl) ?_;simp only [takS,Exs]
 iterate 5 apply Exists.intro
 apply Run.valG (wanted_none rfl _)
 ·intro w1 h1 hk;have q0:=h1.cell y0;have q1:=h1.cell y1;have q2:=h1.cell y2;have hg:=F1.out.trans ((Fut.drew _).trans h1);have hgs:=hg.size;have hcw:=fun b o => Below.cell (p:=⟨b,o,none⟩) h1;go_simp;rfl
 simp only [actS];apply Run.callR (wanted_none rfl _) (by intro v w w' hf hs;exact hs.fut RNm.stays hf) (fun _ _ => by go_simp;exact ⟨rfl,rfl⟩)
 ·intro w1 h1 hk;have q0:=h1.cell y0;have q1:=h1.cell y1;have q2:=h1.cell y2;have hg:=F1.out.trans ((Fut.drew _).trans h1);have hgs:=hg.size;refine (HV.out _ hg).mono ?_;rintro e w' ⟨v,rfl,ho,hf⟩;exact ⟨_,rfl,hf,ho.base hgs⟩
 intro v1;simp only [actS];apply Run.valG (wanted_none rfl _)
 ·intro w1 h1 hk;go_simp;rfl
 simp only [actS];apply Run.valG (wanted_none rfl _)
 ·intro w1 h1 hk;have q0:=h1.cell y0;have q1:=h1.cell y1;have q2:=h1.cell y2;have hg:=F1.out.trans ((Fut.drew _).trans h1);have hgs:=hg.size;have hcw:=fun b o => Below.cell (p:=⟨b,o,none⟩) h1;go_simp;rfl
 simp only [actS];apply Run.callR (wanted_none rfl _) (by intro v w w' hf hs;exact hs.fut RNm.stays hf) (fun _ _ => by go_simp;exact ⟨rfl,rfl⟩)
 ·intro w1 h1 hk;have f1:=Facts.get hk 0 rfl (by kernel_rfl);have q0:=h1.cell y0;have q1:=h1.cell y1;have q2:=h1.cell y2;have hg:=F1.out.trans ((Fut.drew _).trans h1);have hgs:=hg.size;refine (HL.out _ hg).mono ?_;rintro e w' ⟨v,rfl,ho,hf⟩;exact ⟨_,rfl,hf,ho.base hgs⟩
 intro v4;simp only [actS];apply Run.call (wanted_none rfl _) (fun _ _ => by go_simp;exact ⟨rfl,rfl⟩)
 ·intro w1 h1 hk;have f1:=Facts.get hk 0 rfl (by kernel_rfl);have f4:=Facts.get hk 1 rfl (by kernel_rfl);have q0:=h1.cell y0;have q1:=h1.cell y1;have q2:=h1.cell y2;have hg:=F1.out.trans ((Fut.drew _).trans h1);have hgs:=hg.size;obtain ⟨A1,c1,rfl,_,_⟩:=f1.rep.form;obtain ⟨A4,c4,rfl,_,_⟩:=f4.rep.form;refine (rall_any A1 A4 c1 c4 vars lim _ f1.rep (by decide) f4.rep (by decide)).mono ?_;rintro e w' ⟨rfl,rfl⟩;rw [ha];exact ⟨rfl,Fut.refl _⟩
 simp only [actS];apply Run.valG (wanted_none rfl _)
 ·intro w1 h1 hk;have q0:=h1.cell y0;have q1:=h1.cell y1;have q2:=h1.cell y2;have hg:=F1.out.trans ((Fut.drew _).trans h1);have hgs:=hg.size;have hcw:=fun b o => Below.cell (p:=⟨b,o,none⟩) h1;go_simp;rfl
 simp only [actS];apply Run.done;intro w2 h2 hk;obtain ⟨f1,f4,_⟩:=hk;have F3:=F1.out.trans ((Fut.drew _).trans h2);clear h2 f1 f4;cases a
 ·obtain rfl:er=73:=by rw [← her];rfl
  clear her;go_wp2;go_ret;exact ⟨rfl,F3⟩
 ·obtain rfl:er=0:=by rw [← her];rfl
  clear her;go_wp2;go_ret;exact ⟨rfl,F3⟩
set_option maxHeartbeats 4000000 in
set_option maxRecDepth 100000 in
theorem rmakes_any (x:Ru) (Ah Ab:Option Addr) (ch cb:Nat) (w:World) (hp:x.p.size≤140737488351232) (h1:SlRep 5 2513169434916 RAr w (.slice Ah x.h.length ch) x.h) (h2:SlRep 16 651562446089 RLt w (.slice Ab x.b.length cb) x.b) (hl:x.hs.length+x.bs.length≤400000000) :
    Calls Tryz.prog 91 #[.agg #[.string x.p,.slice Ah x.h.length ch,.slice Ab x.b.length cb]] w fun e w' => e = .returned (.bool x.makes)∧Fut w w':=by
 have HR:=Hh (fun W (hW:Fut w W) => rrule7_any x Ah Ab ch cb W hp (h1.fut RAr.stays hW) (h2.fut RLt.stays hW) hl)
 have HV:=Hh (fun W (hW:Fut w W) => rruleVars_any ⟨⟨#[]⟩,x.h,[]⟩ Ah none ch 0 W (h1.fut RAr.stays hW) SlRep.nil (Ru.tms_le _ (by
  have h9:(Ru.hs ⟨⟨#[]⟩,x.h,[]⟩).length=x.hs.length:=rfl;have h8:(Ru.bs ⟨⟨#[]⟩,x.h,[]⟩).length=0:=rfl;omega)))
 have hve:(Ru.vars ⟨⟨#[]⟩,x.h,[]⟩)=ddVs x.hs:=by
  show ddVs (x.hs++[])=_;rw [List.append_nil]
 rw [hve] at HV;have HA:=Hh (fun W (hW:Fut w W) => ratoms_any Ab cb x.b W (h2.fut RLt.stays hW) (by decide) (by unfold Ru.bs at hl;omega));obtain ⟨b,hb⟩:∃ b,x.makes=b:=⟨_,rfl⟩
 rw [hb];have hpe:limitsB x.posB=atomsD x.b:=atomsD_filter x.b;unfold Ru.makes at hb;rw [hpe] at hb;obtain ⟨hv9,hhv⟩:∃ v,ddVs x.hs=v:=⟨_,rfl⟩
 rw [hhv] at HV hb;obtain ⟨er,her⟩:∃ e,x.errno=e:=⟨_,rfl⟩
 rw [her] at HR hb;have H2:=Hh h2;obtain ⟨_,_,_,hc1,hc2⟩:=h2.form;have hbl:x.b.length≤9223372036854775807:=by omega
 clear h1 h2 hl hve hhv her hc1 hc2 hpe;obtain ⟨p,xh,xb⟩:=x;dsimp only at *;generalize xh.length=n at *;generalize atomsD xb=at9 at *;have hbx:=heap_alloc_new w (.cells #[.string p,.slice Ah n ch,.slice Ab xb.length cb] 82);have f0:=Fut.alloc w (.cells #[.string p,.slice Ah n ch,.slice Ab xb.length cb] 82)
 by_cases he:er=0
 rotate_left
 ·obtain rfl:b=false:=by rw [← hb];simp [he]
  have heb:(er == 0)=false:=by rw [beq_eq_false_iff_ne];exact he
  clear hb;go_enter Tryz.func91,Tryz.ntmps91;go_wp2_with fail;refine (HR.out _ f0).mono ?_;rintro e w1 ⟨rfl,f1⟩;go_wp2;go_ret;exact ⟨rfl,f0.trans f1⟩
 subst he;replace hb:=Hh (show (xb.any Lt.works && !allIn at9 hv9)=b by rw [← hb];rfl);go_enter Tryz.func91,Tryz.ntmps91;go_wp2_with fail;refine (HR.out _ f0).mono ?_;rintro e w1 ⟨rfl,f1⟩;have F1:=Hh (f0.trans f1);have hbx1:=f1.block hbx;have k1:=cell_at hbx1 1 (.slice Ah n ch) rfl;have k2:=cell_at hbx1 2 (.slice Ab xb.length cb) rfl;clear f0 f1 hbx HR hbx1;go_wp2_with fail;go_loopw [3,4] (fun ws i wr => ∃ k:Nat,k≤xb.length∧i = .int .i64 k∧ws = .bool ((xb.take k).any Lt.works)∧Hid (wr=w1)) (fun _ i _ => xb.length - (intOf i).toNat)
 case atStart => exact ⟨0,Nat.zero_le _,rfl,rfl,Hh rfl⟩
 case round =>
  obtain ⟨k,hk,rfl,rfl,hW⟩:=hrel;obtain rfl:=hW.out
  by_cases hlt:k<xb.length
  ·have hltI:(k:Int)<xb.length:=by omega
   have e0:(0:Int)≤k∧(k:Int)<xb.length:=by omega
   obtain ⟨b',off,A',c2,Al,l',cl,Ad,d',cd,rfl,hcs,_,_,g3⟩:=lt_at (H2.out.fut RLt.stays F1.out) hlt
   have han:(xb.take (k+1)).any Lt.works=((xb.take k).any Lt.works || xb[k].works):=by
    rw [List.take_succ_eq_append_getElem hlt,List.any_append];simp
   generalize xb[k]=z at *;have u0:wr.cell? ⟨b',off+k * 16,none⟩=some (.int .i8 z.k):=hcs 0 _ rfl;have u4:=hcs 4 _ rfl;have u10:=hcs 10 _ rfl;have hwk:z.works=(decide (z.k=3) && (!decide (z.l.op=0) || !decide (z.d.op=0))):=rfl;clear g3 hcs;obtain ⟨d0,hd0⟩:∃ d,(xb.take k).any Lt.works=d:=⟨_,rfl⟩
   rw [hd0] at han ⊢;generalize z.works=wk at *;generalize z.k=zk at *;generalize z.l.op=lo at *;generalize z.d.op=do' at *;clear hd0;cases d0
   ·by_cases e3:zk=3
    ·have e3b:(zk == 3)=true:=by rw [e3];rfl
     by_cases el:lo=0
     ·have elb:(lo == 0)=true:=by rw [el];rfl
      by_cases ed:do'=0
      ·have edb:(do' == 0)=true:=by rw [ed];rfl
       replace han:=Hh (show (xb.take (k+1)).any Lt.works=false by rw [han,hwk,decide_eq_true e3,decide_eq_true el,decide_eq_true ed];rfl);clear hwk;go_wp2;go_roundw
       case rel => exact ⟨k+1,by omega,by go_num,by rw [han.out],(by first|exact Hh trivial|exact Hh rfl)⟩
       case measure => simp [intOf] <;> omega
      ·have edb:(do' == 0)=false:=by rw [beq_eq_false_iff_ne];exact ed
       replace han:=Hh (show (xb.take (k+1)).any Lt.works=true by rw [han,hwk,decide_eq_true e3,decide_eq_true el,decide_eq_false ed];rfl);clear hwk;go_wp2;go_roundw
       case rel => exact ⟨k+1,by omega,by go_num,by rw [han.out];simp [ed],(by first|exact Hh trivial|exact Hh rfl)⟩
       case measure => simp [intOf] <;> omega
     ·have elb:(lo == 0)=false:=by rw [beq_eq_false_iff_ne];exact el
      replace han:=Hh (show (xb.take (k+1)).any Lt.works=true by rw [han,hwk,decide_eq_true e3,decide_eq_false el];rfl);clear hwk;go_wp2;go_roundw
      case rel => exact ⟨k+1,by omega,by go_num,by rw [han.out],(by first|exact Hh trivial|exact Hh rfl)⟩
      case measure => simp [intOf] <;> omega
    ·have e3b:(zk == 3)=false:=by rw [beq_eq_false_iff_ne];exact e3
     replace han:=Hh (show (xb.take (k+1)).any Lt.works=false by rw [han,hwk,decide_eq_false e3];rfl);clear hwk;go_wp2;go_roundw
     case rel => exact ⟨k+1,by omega,by go_num,by rw [han.out],(by first|exact Hh trivial|exact Hh rfl)⟩
     case measure => simp [intOf] <;> omega
   ·replace han:=Hh (show (xb.take (k+1)).any Lt.works=true from han.trans (Bool.true_or _));clear hwk;go_wp2;go_roundw
    case rel => exact ⟨k+1,by omega,by go_num,by rw [han.out],(by first|exact Hh trivial|exact Hh rfl)⟩
    case measure => simp [intOf] <;> omega
  ·obtain rfl:k=xb.length:=by omega
   rw [List.take_length];obtain ⟨d0,hd0⟩:∃ d,xb.any Lt.works=d:=⟨_,rfl⟩
   rw [hd0] at hb ⊢;clear hd0;cases d0
   ·obtain rfl:b=false:=hb.out.symm.trans (Bool.false_and _);go_wp2_with fail;refine wp_graph 13 [.d,.d,.d,.d,.d,.d,.d,.d,.d,.d,.d,.d,.d] (by kernel_rfl) (by kernel_rfl) (by kernel_rfl) ?_;simp only [takS,Exs]
    iterate 13 apply Exists.intro
    iterate 2
     apply Run.valG (wanted_none rfl _)
     ·intro w1 h1 hk;go_simp;rfl
     simp only [actS]
    iterate 9
     apply Run.skip (by first|(go_simp;done)|(go_simp;exact fun h => nomatch h));simp only [actS]
    iterate 2
     apply Run.valG (wanted_none rfl _)
     ·intro w1 h1 hk;go_simp;rfl
     simp only [actS]
    apply Run.done;intro w2 h2 hk;clear hk;have F3:=Hh (F1.out.trans ((Fut.drew _).trans h2));clear h2;go_wp2;go_ret;exact ⟨rfl,F3.out⟩
   ·obtain ⟨a,ha⟩:∃ a,allIn at9 hv9=a:=⟨_,rfl⟩
    rw [ha] at hb;obtain rfl:b=!a:=hb.out.symm.trans (Bool.true_and _);go_wp2_with fail;refine wp_graph 13 [.d,.d,.d,.d,.d,.r (fun v W => Nms w.heap.size W v hv9),.d,.d,.r (fun v W => Nms w.heap.size W v at9),.d,.d,.d,.d] (by kernel_rfl) (by kernel_rfl) (by kernel_rfl) ?_;simp only [takS,Exs]
    iterate 11 apply Exists.intro
    iterate 2
     apply Run.valG (wanted_none rfl _)
     ·intro w1 h1 hk;go_simp;rfl
     simp only [actS]
    apply Run.valG (by go_simp)
    ·intro w1 h1 hk;go_simp;rfl
    simp only [actS]
    iterate 2
     apply Run.valG (by go_simp)
     ·intro w1 h1 hk;have q1:=h1.cell k1;have q2:=h1.cell k2;have hg:=F1.out.trans ((Fut.drew _).trans h1);have hgs:=hg.size;have hcw:=fun b o => Below.cell (p:=⟨b,o,none⟩) h1;go_simp;rfl
     simp only [actS]
    apply Run.callR (by go_simp) (by intro v w w' hf hs;exact hs.fut RNm.stays hf) (fun _ _ => by go_simp;exact ⟨rfl,rfl⟩)
    ·intro w1 h1 hk;have q1:=h1.cell k1;have q2:=h1.cell k2;have hg:=F1.out.trans ((Fut.drew _).trans h1);have hgs:=hg.size;refine (HV.out _ hg).mono ?_;rintro e w' ⟨v,rfl,g1,hf⟩;exact ⟨_,rfl,hf,g1.base hgs⟩
    intro v5;simp only [actS];apply Run.valG (by go_simp)
    ·intro w1 h1 hk;go_simp;rfl
    simp only [actS];apply Run.valG (by go_simp)
    ·intro w1 h1 hk;have q1:=h1.cell k1;have q2:=h1.cell k2;have hg:=F1.out.trans ((Fut.drew _).trans h1);have hgs:=hg.size;have hcw:=fun b o => Below.cell (p:=⟨b,o,none⟩) h1;go_simp;rfl
    simp only [actS];apply Run.callR (by go_simp) (by intro v w w' hf hs;exact hs.fut RNm.stays hf) (fun _ _ => by go_simp;exact ⟨rfl,rfl⟩)
    ·intro w1 h1 hk;have f5:=Facts.get hk 0 rfl (by kernel_rfl);have q1:=h1.cell k1;have q2:=h1.cell k2;have hg:=F1.out.trans ((Fut.drew _).trans h1);have hgs:=hg.size;refine (HA.out _ hg).mono ?_;rintro e w' ⟨v,rfl,g1,hf⟩;exact ⟨_,rfl,hf,g1.base hgs⟩
    intro v8;simp only [actS];apply Run.call (by go_simp) (fun _ _ => by go_simp;exact ⟨rfl,rfl⟩)
    ·intro w1 h1 hk;have f5:=Facts.get hk 0 rfl (by kernel_rfl);have f8:=Facts.get hk 1 rfl (by kernel_rfl);have q1:=h1.cell k1;have q2:=h1.cell k2;have hg:=F1.out.trans ((Fut.drew _).trans h1);have hgs:=hg.size;obtain ⟨A1,c1,rfl,_,_⟩:=f5.rep.form;obtain ⟨A4,c4,rfl,_,_⟩:=f8.rep.form;refine (rall_any A1 A4 c1 c4 hv9 at9 _ f5.rep (by decide) f8.rep (by decide)).mono ?_;rintro e w' ⟨rfl,rfl⟩;rw [ha];exact ⟨rfl,Fut.refl _⟩
    simp only [actS];apply Run.valG (by go_simp)
    ·intro w1 h1 hk;have q1:=h1.cell k1;have q2:=h1.cell k2;have hg:=F1.out.trans ((Fut.drew _).trans h1);have hgs:=hg.size;have hcw:=fun b o => Below.cell (p:=⟨b,o,none⟩) h1;go_simp;rfl
    simp only [actS]
    iterate 2
     apply Run.valG (wanted_none rfl _)
     ·intro w1 h1 hk;go_simp;rfl
     simp only [actS]
    apply Run.done;intro w2 h2 hk;obtain ⟨f5,f8,_⟩:=hk;have F3:=Hh (F1.out.trans ((Fut.drew _).trans h2));clear h2 f5 f8;go_wp2;go_ret;exact ⟨rfl,F3.out⟩
theorem ar9_at {M:Nat} {w:World} {A:Option Addr} {n cap:Nat} {xs:List Ar} (h:SlRep 5 M RAr w (.slice A n cap) xs) {k:Nat} (hk:k<xs.length) :
    ∃ b off,A=some ⟨b,off,none⟩∧w.cell? ⟨b,off+k * 5,none⟩=some (.int .i8 (xs[k]).g):=by
 obtain ⟨A1,cap1,hv,_,_,h3⟩:=h;obtain ⟨b,off,cs,hA,hl,hc,hr,_⟩:=h3 k _ (List.getElem?_eq_getElem hk);injection hv with hv _ _
 subst hr;exact ⟨b,off,hv.trans hA,hc 0 _ rfl⟩
set_option maxHeartbeats 1000000 in
set_option maxRecDepth 100000 in
theorem risAtom_any (z:Lt) (A1:Option Addr) (n1 c1:Nat) (A2:Option Addr) (n2 c2:Nat) (A3:Option Addr) (n3 c3:Nat) (w:World) :
    Calls Tryz.prog 90 #[.agg (z.cs (.slice A1 n1 c1) (.slice A2 n2 c2) (.slice A3 n3 c3)).toArray] w fun e w' => e = .returned (.bool z.isA)∧Fut w w':=by
 have hbx:=heap_alloc_new w (.cells (z.cs (.slice A1 n1 c1) (.slice A2 n2 c2) (.slice A3 n3 c3)).toArray 120);have k0:=cell_at hbx 0 (.int .i8 z.k) rfl;obtain ⟨b,hb⟩:∃ b,z.isA=b:=⟨_,rfl⟩
 rw [hb];unfold Lt.isA at hb;generalize hcs:z.cs (.slice A1 n1 c1) (.slice A2 n2 c2) (.slice A3 n3 c3)=cs at *;clear hcs hbx;have f0:=Fut.alloc w (.cells cs.toArray 120);generalize z.k=k at *
 by_cases h1:k=1
 ·subst h1;obtain rfl:b=true:=by rw [← hb];rfl
  clear hb;go_enter Tryz.func90,Tryz.ntmps90;go_wp2;go_ret;exact ⟨rfl,f0⟩
 ·have h1b:(k == 1)=false:=by rw [beq_eq_false_iff_ne];exact h1
  by_cases h2:k=2
  ·subst h2;obtain rfl:b=true:=by rw [← hb];rfl
   clear hb;go_enter Tryz.func90,Tryz.ntmps90;go_wp2;go_ret;exact ⟨rfl,f0⟩
  ·have h2b:(k == 2)=false:=by rw [beq_eq_false_iff_ne];exact h2
   obtain rfl:b=false:=by rw [← hb,decide_eq_false h1,decide_eq_false h2];rfl
   clear hb;go_enter Tryz.func90,Tryz.ntmps90;go_wp2;go_ret;exact ⟨rfl,f0⟩
set_option maxHeartbeats 2000000 in
set_option maxRecDepth 100000 in
theorem rhasAgg_any (x:Ru) (Ah Ab:Option Addr) (ch cb:Nat) (w:World) (h1:SlRep 5 2513169434916 RAr w (.slice Ah x.h.length ch) x.h) :
    Calls Tryz.prog 92 #[.agg #[.string x.p,.slice Ah x.h.length ch,.slice Ab x.b.length cb]] w fun e w' => e = .returned (.bool x.agg)∧Fut w w':=by
 have hh:=h1.len;obtain ⟨_,_,_,hc1,hc2⟩:=h1.form;have f0:=Fut.alloc w (.cells #[.string x.p,.slice Ah x.h.length ch,.slice Ab x.b.length cb] 82);have hbx:=heap_alloc_new w (.cells #[.string x.p,.slice Ah x.h.length ch,.slice Ab x.b.length cb] 82);have H1:=Hh (h1.fut RAr.stays f0);have HB:=Hh hbx;have F0:=Hh f0;have hxl:x.h.length≤9223372036854775807:=by omega
 unfold Ru.agg;obtain ⟨b,hb⟩:∃ b,x.h.any Ar.agg=b:=⟨_,rfl⟩
 rw [hb];replace hb:=Hh hb;clear h1 f0 hbx hh hc1 hc2;obtain ⟨p,xh,xb⟩:=x;dsimp only at *;generalize xb.length=m at *;obtain ⟨wb,hwb⟩:∃ W,w.alloc (.cells #[.string p,.slice Ah xh.length ch,.slice Ab m cb] 82)=W:=⟨_,rfl⟩
 rw [hwb] at H1 HB F0;have y1:=cell_at HB.out 1 (.slice Ah xh.length ch) rfl;go_enter Tryz.func92,Tryz.ntmps92;go_wp2_with fail;go_loopw [3] (fun i wr => ∃ k:Nat,k≤xh.length∧i = .int .i64 k∧Hid (wr=wb)∧Hid (∀ y ∈ xh.take k,y.agg=false)) (fun i _ => xh.length - (intOf i).toNat)
 case atStart => exact ⟨0,Nat.zero_le _,rfl,(by first|exact Hh hwb|exact Hh rfl),Hh (fun y hy => by simp at hy)⟩
 case round =>
  obtain ⟨k,hk,rfl,hW,hA⟩:=hrel;clear hwb;obtain rfl:=hW.out
  by_cases hlt:k<xh.length
  ·have hltI:(k:Int)<xh.length:=by omega
   have e0:(0:Int)≤k∧(k:Int)<xh.length:=by omega
   obtain ⟨b',off,rfl,u0⟩:=ar9_at H1.out hlt;have hnx:=Hh (List.take_succ_eq_append_getElem hlt);have hmem:=Hh (List.getElem_mem hlt);generalize xh[k]=z at *;have hag:z.agg=!decide (z.g=0):=rfl
   by_cases hz:z.g=0
   ·rw [hz] at u0
    have HA3:Hid (∀ y ∈ xh.take (k+1),y.agg=false):=Hh fun y hy => by
     rw [hnx.out,List.mem_append] at hy;rcases hy with hy|hy
     ·exact hA.out y hy
     ·rw [List.mem_singleton] at hy;subst hy;rw [hag,hz];rfl
    clear hag;go_wp2;go_roundw
    case rel => exact ⟨k+1,by omega,by go_num,(by first|exact Hh trivial|exact Hh rfl),HA3⟩
    case measure => simp [intOf] <;> omega
   ·have hzb:(z.g == 0)=false:=by rw [beq_eq_false_iff_ne];exact hz
    obtain rfl:b=true:=by
     rw [← hb.out];exact List.any_eq_true.2 ⟨z,hmem.out,by rw [hag,decide_eq_false hz];rfl⟩
    clear hag;go_wp2;go_ret;exact ⟨rfl,F0.out⟩
  ·obtain rfl:k=xh.length:=by omega
   rw [List.take_length] at hA
   obtain rfl:b=false:=by
    rw [← hb.out];exact List.any_eq_false.2 fun x hx => by rw [hA.out x hx];decide
   go_wp2;go_ret;exact ⟨rfl,F0.out⟩
end Go.Proofs.YtobabnpllokkaaaGreatDoor
