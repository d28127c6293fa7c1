/- Parts. -/
import Derived.ScopeJumps
import Derived.Test.YtobabnpllokkaaaGreatDoorP15
import Derived.Test.YtobabnpllokkaaaGreatDoorP12
import Derived.Test.YtobabnpllokkaaaGreatDoorP00
set_option linter.unusedSimpArgs false
set_option linter.unusedVariables false
namespace Go.Proofs.YtobabnpllokkaaaGreatDoor
open Go.RowKit Go.WideMaps Go.Maps
set_option maxHeartbeats 4000000 in
set_option maxRecDepth 100000 in
theorem partsR_any {M:Nat} (A:Option Addr) (c:Nat) (rs:List Ru) (w:World) (h:SlRep 3 M RRu w (.slice A rs.length c) rs) (hM:M≤9223372036854775807) (hS:Small rs) (N:Nat) (T:TS) (hT:tarjT (drawP rs) N=some T) (hGl:(drawP rs).length≤100000000) (hSd:SoundT T) (hpz0:∀ p ∈ T.out,∀ x ∈ p,x.size≤140737488351232) (L:List (List ByteArray)) (hL:partsP (drawP rs) T=some L) :
    Calls Tryz.prog 9 #[.agg #[.slice A rs.length c]] w fun e w' => ∃ v,e = .returned v∧OwnL 1 w.heap.size 76 (RLs w.heap.size (.slice none 0 0)) w' v L∧Fut w w':=by
 have HD:=Hh (fun W (hW:Fut w W) => draw_any A c rs W (h.fut RRu.stays hW) hM hS);obtain ⟨G,hG9⟩:∃ G,drawP rs=G:=⟨_,rfl⟩
 simp only [hG9] at HD hT hGl hL;have hbx:=heap_alloc_new w (.cells #[.slice A rs.length c] 28);have F0:=Hh (Fut.alloc w (.cells #[.slice A rs.length c] 28));have c0:=cell_at hbx 0 (.slice A rs.length c) rfl;have hT':=Hh hT;have hGl':=Hh hGl;have hSd':=Hh hSd;have hL':=Hh hL;obtain ⟨n,hn⟩:∃ n,T.out.length=n:=⟨_,rfl⟩
 have hn1:=hSd.len;rw [hn] at hn1;have hm1:=Hh (fun W => run_makeI n hn1 W);have hm2:=Hh (fun W => run_makeIl n hn1 W);have hn':=Hh hn;have HPZ:=Hh hpz0;clear h hS hbx hT hGl hSd hL hG9 hn;go_enter Tryz.func9,Tryz.ntmps9;go_wp2_with fail;refine (HD.out _ F0.out).mono ?_;rintro e w1 ⟨mb,rfl,hG,f1⟩;have HP:=Hh (parts_any N T w1 hG hGl'.out hT'.out);have HG:=Hh (gri_base hG F0.out.size);have F1:=Hh (F0.out.trans f1);clear hG f1 HD c0;go_wp2_with fail;refine HP.out.mono ?_;rintro e w2 ⟨imb,ov,rfl,hm,hms,ho,f2⟩;obtain ⟨Ap,cp,rfl,hp1,hp2⟩:=ho.rep.form;have HM:=Hh hm;have HMS:=Hh hms;have HO:=Hh ((ho.base F1.out.size).imp fun cs x hx => hx.low F1.out.size);have F2:=Hh (F1.out.trans f2);have HG2:=Hh (HG.out.fut f2);rw [hn'.out];clear hm hms ho f2 HP HG hp1 hp2;have q1:=hm1.out;have q2:=hm2.out;obtain ⟨W3,hW3⟩:∃ W,W=(w2.alloc (.cells (madeCells #[.int .i64 0] n) 3)).alloc (.cells (madeCells #[.slice none 0 0] n) 100):=⟨_,rfl⟩
 obtain ⟨hAb,f3,hz3⟩:=AbI.new w2 W3 n G T hW3;have HAb:=Hh hAb;have F3:=Hh f3;have hz2:(w2.alloc (.cells (madeCells #[.int .i64 0] n) 3)).heap.size=w2.heap.size+1:=by simp
 have hW3':=Hh hW3;have hn63:n≤9223372036854775807:=by omega
 clear hAb f3 hW3;go_wp2_with fail;rw [← hW3'.out];go_loopw [37] (fun i wr => ∃ k:Nat,k≤n∧i = .int .i64 k∧Hid (AbI wr w2.heap.size (w2.heap.size+1) (w2.heap.size+2) n (waitP G T k) (aboveP G T k))∧Hid (Fut w2 wr)) (fun i _ => n - (intOf i).toNat)
 case atStart => exact ⟨0,Nat.zero_le _,rfl,HAb,F3⟩
 case round =>
  obtain ⟨k,hk,rfl,hI,hF⟩:=hrel;obtain ⟨wA,rfl⟩:∃ x,x=wr:=⟨_,rfl⟩
  by_cases hlt:k<n
  ·have hltI:(k:Int)<n:=by omega
   have e0:(0:Int)≤k∧(k:Int)<n:=by omega
   have hltT:k<T.out.length:=by rw [hn'.out];exact hlt
   obtain ⟨b',off,pv,rfl,z0',hpv⟩:=ls_at HO.out.rep hltT;have z0:=hF.out.cell z0';have hgd:T.out.getD k []=T.out[k]:=by rw [List.getD_eq_getElem?_getD,List.getElem?_eq_getElem hltT];rfl
   have hlow:lowerP G T k=(T.out[k]).foldl (lowR G T.inn k) []:=by unfold lowerP;rw [hgd]
   have hpz:∀ x ∈ T.out[k],x.size≤140737488351232:=HPZ.out _ (List.getElem_mem hltT);generalize T.out[k]=part at *;obtain ⟨Aq,cq,rfl,hq1,hq2⟩:=hpv.rep.form;have hq3:part.length≤9223372036854775807:=by unfold maxLen at hq2;omega
   have HPV:=Hh hpv;have Hlow:=Hh hlow;have HPz:=Hh hpz;have hmm:=@run_makeMap Tryz.prog;have f4:=Fut.alloc wA (.map #[] 0);have HM0:=Hh (MapE.new (kv:=numK) wA);have hI4:=Hh (hI.out.fut f4);have hF4:=Hh (hF.out.trans f4);have hlbB:w2.heap.size+2≤wA.heap.size:=hI.out.low.2.2.2;obtain ⟨W4,hW4⟩:∃ W,wA.alloc (.map #[] 0)=W:=⟨_,rfl⟩
   rw [hW4] at HM0 hI4 hF4;have hW4':=Hh hW4;clear hpv hgd hlow hpz hq1 hq2 hI hF f4 hW4 z0';go_wp2_with fail;rw [hW4'.out];go_loopw [45] (fun i wq => ∃ m:Nat,m≤part.length∧i = .int .i64 m∧Hid (MapE numK wq wA.heap.size (nsE ((part.take m).foldl (lowR G T.inn k) [])))∧Hid (AbI wq w2.heap.size (w2.heap.size+1) (w2.heap.size+2) n (waitP G T k) (aboveP G T k))∧Hid (Fut w2 wq)) (fun i _ => part.length - (intOf i).toNat)
   case atStart => exact ⟨0,Nat.zero_le _,rfl,HM0,hI4,hF4⟩
   case round =>
    obtain ⟨m,hm,rfl,hMm,hIq,hFq⟩:=hrel;obtain ⟨wq,rfl⟩:∃ x,x=wr:=⟨_,rfl⟩
    by_cases hlt2:m<part.length
    ·have hltI2:(m:Int)<part.length:=by omega
     have e2:(0:Int)≤m∧(m:Int)<part.length:=by omega
     obtain ⟨b2,off2,rfl,z2⟩:=nm_at (HPV.out.fut RNm.stays hFq.out).rep hlt2;have hnx:=Hh (show (part.take (m+1)).foldl (lowR G T.inn k) []=(sucs G part[m]).foldl (lowS T.inn k) ((part.take m).foldl (lowR G T.inn k) []) by rw [List.take_succ_eq_append_getElem hlt2,List.foldl_append];rfl);have hsz:=HPz.out _ (List.getElem_mem hlt2);generalize part[m]=s at *;obtain ⟨sv,hsv,hssz,hlook⟩:=(HG2.out.fut hFq.out).lookO (S:=fun _ => False) hsz (fun h => h);have l2:=hlook _ (Only.refl _);generalize sucs G s=ss at *;obtain ⟨As,cs,rfl,hs1,hs2⟩:=hsv.rep.form;have hs3:ss.length≤9223372036854775807:=by unfold maxLen at hs2;omega
     have hSV:=Hh hsv;have hSz:=Hh hssz;have hacc:=Hh (lowAcc (G:=G) (T:=T) hSd'.out (hn'.out ▸ (show 0<n by omega)) k (part.take m));generalize (part.take m).foldl (lowR G T.inn k) []=acc at *;clear hlook hsv hssz hs1 hs2 hsz;have hMz0:=Hh hMm.out;go_wp2_with fail;go_loopw [53] (fun i wz => ∃ j:Nat,j≤ss.length∧i = .int .i64 j∧Hid (MapE numK wz wA.heap.size (nsE ((ss.take j).foldl (lowS T.inn k) acc)))∧Hid (AbI wz w2.heap.size (w2.heap.size+1) (w2.heap.size+2) n (waitP G T k) (aboveP G T k))∧Hid (Fut w2 wz) ∧Hid (Only (fun j => j=wA.heap.size) wq wz)) (fun i _ => ss.length - (intOf i).toNat)
     case atStart => exact ⟨0,Nat.zero_le _,rfl,hMm,hIq,hFq,Hh (Only.refl _)⟩
     case round =>
      obtain ⟨j,hj,rfl,hMz,hIz,hFz,hOz⟩:=hrel;obtain ⟨wz,rfl⟩:∃ x,x=wr:=⟨_,rfl⟩
      by_cases hlt3:j<ss.length
      ·have hltI3:(j:Int)<ss.length:=by omega
       have e3:(0:Int)≤j∧(j:Int)<ss.length:=by omega
       obtain ⟨b3,off3,rfl,z3'⟩:=nm_at hSV.out.rep hlt3
       have z3:=hOz.out.cell z3' (fun e => by
        obtain ⟨arr,hty⟩:=hSV.out.typed b3 rfl;exact map_ne hMz0.out hty e.symm)
       have hnx3:=Hh (show (ss.take (j+1)).foldl (lowS T.inn k) acc=lowS T.inn k ((ss.take j).foldl (lowS T.inn k) acc) ss[j] by rw [List.take_succ_eq_append_getElem hlt3,List.foldl_append];rfl);have hsz3:=hSz.out _ (List.getElem_mem hlt3);have hac3:=lowAccS hSd'.out (hn'.out ▸ (show 0<n by omega)) k (ss.take j) hacc.out;generalize ss[j]=t at *;generalize (ss.take j).foldl (lowS T.inn k) acc=ac at *;have l3:=look0 (HM.out.fut hFz.out) HMS.out hsz3;have hlk:=hSd'.out.lk (hn'.out ▸ (show 0<n by omega)) t;have hup:=Hh (ns_add hMz.out (fun x hx => by have:=hac3 x hx;have:=hSd'.out.len;omega) (p:=lk0 T.inn t) (by have:=hSd'.out.len;omega));unfold lowS at hnx3;generalize lk0 T.inn t=q at *;clear z3' hac3 hsz3
       by_cases hq:q=k
       ·subst hq;rw [if_pos rfl] at hnx3;have HX:=Hh (by rw [← hnx3.out] at hMz;exact hMz.out);go_wp2;go_roundw
        case rel => exact ⟨j+1,by omega,by go_num,HX,hIz,hFz,hOz⟩
        case measure => simp [intOf] <;> omega
       ·rw [if_neg hq] at hnx3;have n3:¬ (q:Int)=(k:Int):=by omega
        have n4:((q:Int) == (k:Int))=false:=by rw [beq_eq_false_iff_ne];exact n3
        have n5:((q:Int) != (k:Int))=true:=by simp [bne,n4]
        have n6:(q == k)=false:=by rw [beq_eq_false_iff_ne];exact hq
        have n7:(q != k)=true:=by simp [bne,n6]
        obtain ⟨w5,hr5,hM5,hg5⟩:=hup.out;have O5:Only (fun j => j=wA.heap.size) wz w5:=Only.grown hg5 fun k hk => (Option.some.inj hk).symm;have HX:=Hh (by rw [← hnx3.out] at hM5;exact hM5);have HI5:=Hh (hIz.out.only O5 fun k arr t hk e => map_ne hMz.out hk e.symm);have HF5:=Hh (((Only.fut hFz.out).trans (O5.mono (S':=fun j => w2.heap.size≤j) fun k _ e => by omega)).toFut fun k h => h);have HO5:=Hh (hOz.out.trans O5);clear hM5 hg5 O5 hup;go_wp2;go_roundw
        case rel => exact ⟨j+1,by omega,by go_num,HX,HI5,HF5,HO5⟩
        case measure => simp [intOf] <;> omega
      ·obtain rfl:j=ss.length:=by omega
       rw [List.take_length] at hMz;have HX:=Hh (by rw [← hnx.out] at hMz;exact hMz.out);go_wp2;go_roundw
       case rel => exact ⟨m+1,by omega,by go_num,HX,hIz,hFz⟩
       case measure => simp [intOf] <;> omega
    ·obtain rfl:m=part.length:=by omega
     rw [List.take_length,← Hlow.out] at hMm;have hlq:=lowerP_all (G:=G) (T:=T) (P:=fun x => x<n) (fun t => hn'.out ▸ hSd'.out.lk (hn'.out ▸ (show 0<n by omega)) t) k;have hln:=ns_len hMm.out 3;have d0:=hIq.out.wait.cell hlt;have d1:=hIq.out.wait.free k;have hS9:=hIq.out.setWait k ((lowerP G T k).length:Nat);have hO9:Only (fun j => j=w2.heap.size) wq (wq.setCell ⟨w2.heap.size,k,none⟩ (.int .i64 ((lowerP G T k).length:Nat))):=Only.set _ _ rfl;obtain ⟨wS,hwS⟩:∃ x,wq.setCell ⟨w2.heap.size,k,none⟩ (.int .i64 ((lowerP G T k).length:Nat))=x:=⟨_,rfl⟩
     rw [hwS] at hS9 hO9;have hMS:=hMm.out.kept (hO9.block wA.heap.size hMm.out.lt (by omega));have hFS:Fut w2 wS:=((Only.fut hFq.out).trans (hO9.mono (S':=fun j => w2.heap.size≤j) fun k _ e => by omega)).toFut fun k h => h;replace hS9:=Hh hS9;replace hMS:=Hh hMS;replace hFS:=Hh hFS;have hwS':=Hh hwS;clear hO9 hwS hIq hFq hMm;go_wp2_with (first|(at_range;refine wpList_rangeE _ rfl _ tNs rfl 3 103 Tryz.underlying102 wA.heap.size rfl (hwS'.out ▸ hMS.out) ?_;intro wi hrg0 fi zi));go_frame;rw [hwS'.out] at hrg0 fi zi ⊢;rw [nsE_keys] at hrg0;have HR0:=Hh hrg0;have HA0:=Hh ((hS9.out.fut fi).congr (av':=fun j => aboveP G T k j++if j ∈ lowerP G T k∧j ∉ lowerP G T k then [k] else []) (fun j _ => rfl) (fun j _ => by rw [if_neg (fun h => h.2 h.1),List.append_nil]));have HF0:=Hh (hFS.out.trans fi);have hlq':=Hh hlq;have hin0:=infoIn1;clear hrg0 fi zi hln d0 d1 hlq;go_loopw [] (fun wr => ∃ left:List Nat,Hid (RngE numK wr wA.heap.size wS.heap.size (nsE (lowerP G T k)) left)∧Hid (AbI wr w2.heap.size (w2.heap.size+1) (w2.heap.size+2) n (fun j => if j=k then ((lowerP G T k).length:Nat) else waitP G T k j) (fun j => aboveP G T k j++if j ∈ lowerP G T k∧j ∉ left then [k] else []))∧Hid (Fut w2 wr)∧Hid (∀ x ∈ left,x ∈ lowerP G T k)) (fun wr => wr.rangeLeft wA.heap.size wS.heap.size)
     case atStart => exact ⟨_,HR0,HA0,HF0,Hh fun x hx => hx⟩
     case round =>
      obtain ⟨left,hR,hA,hFr,hsub⟩:=hrel;obtain ⟨wz,rfl⟩:∃ x,x=wr:=⟨_,rfl⟩
      have hRo:=hR.out;go_wp2_with (first|(at_next;refine wpList_nextE _ rfl _ rfl wA.heap.size wS.heap.size rfl hRo numK_inj ?done ?more))
      case done =>
       intro h0;subst h0
       have hA9:=Hh (hA.out.congr (wt':=waitP G T (k+1)) (av':=aboveP G T (k+1)) (fun j hj => by
        unfold waitP
        by_cases e:j=k
        ·subst e;rw [if_pos rfl,if_pos (by omega)]
        ·rw [if_neg e]
         by_cases e9:j<k
         ·rw [if_pos e9,if_pos (by omega)]
         ·rw [if_neg e9,if_neg (by omega)]) (fun j _ => by
        rw [aboveP_succ]
        by_cases e:j ∈ lowerP G T k <;> simp [e]))
       clear hA hR hRo hsub;go_wp2;go_roundw
       case rel => exact ⟨k+1,by omega,by go_num,hA9,hFr⟩
       case measure => simp [intOf] <;> omega
      case more =>
       intro x v wn hx hxl hRn hgn hzn hen;have hxn:=hlq'.out x (hsub.out x hx);have On:Only (fun j => j=wS.heap.size) wz wn:=Only.grown hgn fun k hk => (Option.some.inj hk).symm;have hA1:=hA.out.only On fun k' arr t hk e => iter_ne hRo hk e
       have hFn:Fut w2 wn:=((Only.fut hFr.out).trans (On.mono (S':=fun j => w2.heap.size≤j) fun k _ e => by
        have:=HF0.out.size;have:=hFS.out.size;omega)).toFut fun k h => h
       have hav:aboveP G T k x++(if x ∈ lowerP G T k∧x ∉ left then [k] else [])=aboveP G T k x:=by rw [if_neg (fun h => h.2 hx),List.append_nil]
       obtain ⟨v9,h9,hown,_⟩:=hA1.pushAbove hxn;have fa:=Fut.alloc wn (.cells #[.int .i64 (k:Nat)] 3);obtain ⟨v8,h8,_,hpush⟩:=(hA1.fut fa).pushAbove hxn
       obtain rfl:v9=v8:=by
        have:=fa.cell h9;rw [h8] at this;exact (Option.some.inj this).symm
       simp only [hav] at hown hpush
       have hal:(aboveP G T k x).length≤100000000:=by
        unfold aboveP;have:=List.length_filter_le (fun k => decide (x ∈ lowerP G T k)) (List.range k);rw [List.length_range] at this;omega
       have hcnt:=Hh (show ((left.filter (fun y => !decide (y=x))).length<left.length) from List.length_filter_lt_length_iff_exists.2 ⟨x,hx,by simp⟩);have hRl:=Hh hRo.cnt
       have hnxA:∀ j,(if j=x then aboveP G T k x++[k] else aboveP G T k j++(if j ∈ lowerP G T k∧j ∉ left then [k] else []))=aboveP G T k j++(if j ∈ lowerP G T k∧j ∉ left.filter (fun y => !decide (y=x)) then [k] else []):=fun j => by
        by_cases e:j=x
        ·subst e;rw [if_pos rfl,if_pos ⟨hsub.out j hx,by simp⟩]
        ·rw [if_neg e];have:j ∈ left.filter (fun y => !decide (y=x))↔j ∈ left:=by simp [List.mem_filter,e]
         simp only [this]
       have hsub':=Hh (show ∀ y ∈ left.filter (fun y => !decide (y=x)),y ∈ lowerP G T k from fun y hy => hsub.out y (List.mem_filter.1 hy).1);obtain ⟨Ao,co,rfl,_,_⟩:=hown.rep.form;have hownh:=Hh hown;have hpushh:=Hh hpush;have hRnh:=Hh (hRn.fut fa);have hFnh:=Hh (hFn.trans fa);have hxI:(x:Int)<n:=by omega
       have ex:(0:Int)≤x∧(x:Int)<n:=by omega
       have hbs:w2.heap.size+2≤wn.heap.size:=hA1.low.2.2.2;have hlab:w2.heap.size+1<w2.heap.size+2:=Nat.lt_succ_self _;have hnxh:=Hh hnxA;generalize aboveP G T k x=ax at *;unfold numK at hen;clear hzn hA hR hRo hsub hRn hown hpush hnxA hgn On hA1 hFn hav hx h8 hxl;go_wp2_with (first|(at_builtin;go_loud (refine wpList_append_LB (R:=RIn) (B:=w2.heap.size+2) (M:=1) (xs:=ax) (ys:=[k]) (e:=3) (by go_simp) _ _ 100 rfl Tryz.underlying100 (.int .i64 0) 8 infoIn1 rfl (by decide) RIn.one RIn.keeps rfl rfl (hownh.out.fut RIn.stays fa) (inOne _ k _) ?l3 ?l4 ?b3 ?k3)))
       case l3 => simp [maxLen];omega
       case l4 => simp;omega
       case b3 => simp;omega
       case k3 =>
       intro v' w' o' g' sn';obtain ⟨c0,c1,hA3,hO3,hR3⟩:=hpushh.out w' v' k o' g' sn';obtain ⟨A8,c8,rfl,_,_⟩:=o'.rep.form;obtain ⟨w5,hw5⟩:∃ W,w'.setCell ⟨w2.heap.size+1,x,none⟩ (.slice A8 (ax++[k]).length c8)=W:=⟨_,rfl⟩
       rw [hw5] at hA3 hO3 hR3;have HA5:=Hh (hA3.congr (fun j _ => rfl) (fun j _ => hnxh.out j));have HR5:=Hh (hR3 _ _ _ _ hRnh.out);have HF5:=Hh (show Fut w2 w5 from ((Only.fut hFnh.out).trans (hO3.mono (S':=fun j => w2.heap.size≤j) fun k _ e => by omega)).toFut fun k h => h);have hi3:=infoIl;rw [List.length_append,List.length_singleton] at hw5;have hw5':=Hh hw5;clear hA3 hO3 hR3 o' g' sn' hw5 hpushh hownh;go_wp2_with (first|(refine wpList_store_1 (wanted_none rfl _) _ _ rfl rfl rfl hi3 rfl c0 c1 hw5'.out ?_));rw [hw5'.out];clear c0 c1;go_wp2;go_roundw
       case rel => exact ⟨_,HR5,HA5,HF5,hsub'⟩
       case measure => rw [HR5.out.cnt,hRl.out];exact hcnt.out
  ·obtain rfl:n=k:=by omega
   obtain ⟨l0,hl0,rfl⟩:∃ l0,ordP G T n (waitP G T n)=some l0∧L=l0.map fun a => T.out.getD a []:=by
    have h9:=hL'.out;unfold partsP at h9;rw [hn'.out] at h9;cases q:ordP G T n (waitP G T n) with
    | none => rw [q] at h9;cases h9
    | some l => rw [q] at h9;exact ⟨l,rfl,(Option.some.inj h9).symm⟩
   have HO0:=Hh (show ordP G T (n - 0) (waitP G T n)=some l0 from hl0);clear hl0 hL' q1 q2 HAb F3 hW3' hm1 hm2 HG2 HM HMS hlt hk;go_wp2_with fail;go_loopw [16,93] (fun u i wr => ∃ (q:Nat) (wt:Nat→Int) (dn rest:List Nat),q≤n∧i = .int .i64 q∧Hid (ordP G T (n - q) wt=some rest)∧Hid (dn++rest=l0)∧Hid (dn.length=q)∧Hid (AbI wr w2.heap.size (w2.heap.size+1) (w2.heap.size+2) n wt (aboveP G T n))∧Hid (OwnL 1 (w2.heap.size+2) 76 (RLs w.heap.size (.slice none 0 0)) wr u (dn.map fun a => T.out.getD a []))∧Hid (Fut w2 wr)) (fun _ i _ => n - (intOf i).toNat)
   case atStart => exact ⟨0,_,[],l0,Nat.zero_le _,rfl,HO0,Hh rfl,Hh rfl,hI,Hh OwnL.nil,hF⟩
   case round =>
    obtain ⟨q,wt,dn,rest,hq,rfl,hor,hdr,hdl,hA,hOu,hFr⟩:=hrel;obtain ⟨wA,rfl⟩:∃ x,x=wr:=⟨_,rfl⟩
    by_cases hlq:q<n
    ·have hlqI:(q:Int)<n:=by omega
     have e1:(0:Int)≤q∧(q:Int)<n:=by omega
     obtain ⟨m,hm9⟩:∃ m,n - q=m+1:=⟨n - q - 1,by omega⟩
     have hor':=hor.out;rw [hm9] at hor';unfold ordP at hor';rw [hn'.out] at hor'
     obtain ⟨a,hpa,rest',hre,rfl⟩:∃ a,pickP T wt n=some a∧∃ rest',ordP G T m (layP G T wt a)=some rest'∧rest=a :: rest':=by
      cases hp:pickP T wt n with
      | none => rw [hp] at hor';cases hor'
      | some a =>
       rw [hp] at hor';dsimp only at hor';cases hr:ordP G T m (layP G T wt a) with
       | none => rw [hr] at hor';cases hor'
       | some r => rw [hr] at hor';exact ⟨a,rfl,r,hr,(Option.some.inj hor').symm⟩
     have han:=pickP_lt hpa;have hpa':=Hh hpa;have hre':=Hh hre;have hm9':=Hh hm9;clear hor hor' hpa hre hm9;go_wp2_with fail;go_loopw [17,97] (fun x i wz => ∃ j:Nat,j≤n∧i = .int .i64 j∧x=pkV (pickP T wt j)∧Hid (Fut wA wz)) (fun _ i _ => n - (intOf i).toNat)
     case atStart => exact ⟨0,Nat.zero_le _,rfl,rfl,Hh (Fut.refl _)⟩
     case round =>
      obtain ⟨j,hj,rfl,hx,hFz⟩:=hrel;obtain ⟨wz,rfl⟩:∃ x,x=wr:=⟨_,rfl⟩
      by_cases hlj:j<n
      ·have hljI:(j:Int)<n:=by omega
       have e2:(0:Int)≤j∧(j:Int)<n:=by omega
       have y0:=hFz.out.cell (hA.out.wait.cell hlj);have hx9:pickP T wt (j+1)=if wt j=0∧betterP T j (pickP T wt j)=true then some j else pickP T wt j:=rfl
       obtain ⟨wj,hwj⟩:∃ x,wt j=x:=⟨_,rfl⟩
       rw [hwj] at y0 hx9;replace hwj:=Hh hwj
       by_cases hw0:wj=0
       ·subst hw0;cases hpj:pickP T wt j with
        | none =>
         rw [hpj] at hx hx9;have hx9':=Hh (hx9.trans (if_pos ⟨rfl,rfl⟩));unfold pkV at hx;dsimp only at hx;subst hx;clear hx9;go_wp2;refine wp_graph 21 [.d,.d,.d,.d,.d,.d,.d,.d,.d,.d,.d,.d,.d,.d,.d,.d,.d,.d,.d,.d,.d] (by kernel_rfl) (by kernel_rfl) (by kernel_rfl) ?_;simp only [takS,Exs]
         iterate 21 apply Exists.intro
         iterate 3
          apply Run.valG (wanted_none rfl _)
          ·intro w1 h1 hk;go_simp;rfl
          simp only [actS]
         iterate 3
          apply Run.valG (by go_simp)
          ·intro w1 h1 hk;go_simp;rfl
          simp only [actS]
         iterate 13
          apply Run.skip (by first|(go_simp;done)|(go_simp;exact fun h => nomatch h));simp only [actS]
         apply Run.valG (by go_simp)
         ·intro w1 h1 hk;go_simp;rfl
         simp only [actS];apply Run.valG (wanted_none rfl _)
         ·intro w1 h1 hk;go_simp;rfl
         simp only [actS];apply Run.done;intro w2 h2 hk;clear hk;have F9:=Hh (hFz.out.trans ((Fut.drew _).trans h2));clear h2;go_wp2;go_roundw
         case rel => exact ⟨j+1,by omega,by go_num,by rw [hx9'.out];rfl,F9⟩
         case measure => simp [intOf] <;> omega
        | some b =>
         have hbn:b<n:=by have:=pickP_lt hpj;omega
         rw [hpj] at hx hx9;unfold pkV at hx;dsimp only at hx;subst hx;have hjT:j<T.out.length:=by rw [hn'.out];exact hlj
         have hbT:b<T.out.length:=by rw [hn'.out];exact hbn
         obtain ⟨bj,oj,vj,hej,zj,hvj⟩:=ls_at HO.out.rep hjT;obtain ⟨bb,ob,vb,heb,zb,hvb⟩:=ls_at HO.out.rep hbT;obtain ⟨gj,pj,cj,rfl,xj⟩:=headN_at hvj (hSd'.out.ne _ (List.getElem_mem hjT));obtain ⟨gb,pb,cb,rfl,xb⟩:=headN_at hvb (hSd'.out.ne _ (List.getElem_mem hbT));have hlj0:0<(T.out[j]).length:=List.length_pos_iff.2 (hSd'.out.ne _ (List.getElem_mem hjT));have hlb0:0<(T.out[b]).length:=List.length_pos_iff.2 (hSd'.out.ne _ (List.getElem_mem hbT));rw [← headP_at hjT] at xj;rw [← headP_at hbT] at xb;generalize (T.out[j]).length=lj at *;generalize (T.out[b]).length=lb at *;subst hej;injection heb with heb
         injection heb with he1 he2 _
         subst he1;subst he2;have FW:=hFr.out.trans hFz.out;have zj1:=FW.cell zj;have zb1:=FW.cell zb;have xj1:=FW.cell xj;have xb1:=FW.cell xb;have hljI0:(0:Int)<lj:=by omega
         have hlbI0:(0:Int)<lb:=by omega
         have hbnI:(b:Int)<n:=by omega
         have eb2:(0:Int)≤b∧(b:Int)<n:=by omega
         have hbneg:¬ (b:Int)<0:=by omega
         have hless:=less_cmpS (headP T j) (headP T b);clear zj zb xj xb hvj hvb FW
         by_cases hc:cmpS (headP T j) (headP T b)<0
         ·rw [decide_eq_true hc] at hless;have hx9':=Hh (hx9.trans (if_pos ⟨rfl,decide_eq_true hc⟩));generalize headP T j=sj at *;generalize headP T b=sb at *;clear hx9 hc;go_wp2;refine wp_graph 21 [.d,.d,.d,.d,.d,.d,.d,.d,.d,.d,.d,.d,.d,.d,.d,.d,.d,.d,.d,.d,.d] (by kernel_rfl) (by kernel_rfl) (by kernel_rfl) ?_;simp only [takS,Exs]
          iterate 21 apply Exists.intro
          iterate 3
           apply Run.valG (wanted_none rfl _)
           ·intro w1 h1 hk;go_simp;rfl
           simp only [actS]
          iterate 6
           apply Run.valG (by go_simp)
           ·intro w1 h1 hk;go_simp;rfl
           simp only [actS]
          apply Run.valG (by go_simp)
          ·intro w1 h1 hk;have r1:=h1.cell zj1;have r2:=h1.cell zb1;have r3:=h1.cell xj1;have r4:=h1.cell xb1;have hcw:=fun b o => Below.cell (p:=⟨b,o,none⟩) h1;go_simp;rfl
          simp only [actS];apply Run.valG (by go_simp)
          ·intro w1 h1 hk;go_simp;rfl
          simp only [actS];apply Run.valG (by go_simp)
          ·intro w1 h1 hk;have r1:=h1.cell zj1;have r2:=h1.cell zb1;have r3:=h1.cell xj1;have r4:=h1.cell xb1;have hcw:=fun b o => Below.cell (p:=⟨b,o,none⟩) h1;go_simp;rfl
          simp only [actS]
          iterate 3
           apply Run.valG (by go_simp)
           ·intro w1 h1 hk;go_simp;rfl
           simp only [actS]
          apply Run.valG (by go_simp)
          ·intro w1 h1 hk;have r1:=h1.cell zj1;have r2:=h1.cell zb1;have r3:=h1.cell xj1;have r4:=h1.cell xb1;have hcw:=fun b o => Below.cell (p:=⟨b,o,none⟩) h1;go_simp;rfl
          simp only [actS];apply Run.valG (by go_simp)
          ·intro w1 h1 hk;go_simp;rfl
          simp only [actS];apply Run.valG (by go_simp)
          ·intro w1 h1 hk;have r1:=h1.cell zj1;have r2:=h1.cell zb1;have r3:=h1.cell xj1;have r4:=h1.cell xb1;have hcw:=fun b o => Below.cell (p:=⟨b,o,none⟩) h1;go_simp;rfl
          simp only [actS]
          iterate 2
           apply Run.valG (by go_simp)
           ·intro w1 h1 hk;go_simp;rfl
           simp only [actS]
          apply Run.valG (wanted_none rfl _)
          ·intro w1 h1 hk;go_simp;rfl
          simp only [actS];apply Run.done;intro w2 h2 hk;clear hk;have F9:=Hh (hFz.out.trans ((Fut.drew _).trans h2));clear h2;go_wp2;go_roundw
          case rel => exact ⟨j+1,by omega,by go_num,by rw [hx9'.out];rfl,F9⟩
          case measure => simp [intOf] <;> omega
         ·rw [decide_eq_false hc] at hless;have hx9':=Hh (hx9.trans (if_neg (fun h => hc (of_decide_eq_true h.2))));generalize headP T j=sj at *;generalize headP T b=sb at *;clear hx9 hc;go_wp2;refine wp_graph 21 [.d,.d,.d,.d,.d,.d,.d,.d,.d,.d,.d,.d,.d,.d,.d,.d,.d,.d,.d,.d,.d] (by kernel_rfl) (by kernel_rfl) (by kernel_rfl) ?_;simp only [takS,Exs]
          iterate 21 apply Exists.intro
          iterate 3
           apply Run.valG (wanted_none rfl _)
           ·intro w1 h1 hk;go_simp;rfl
           simp only [actS]
          iterate 6
           apply Run.valG (by go_simp)
           ·intro w1 h1 hk;go_simp;rfl
           simp only [actS]
          apply Run.valG (by go_simp)
          ·intro w1 h1 hk;have r1:=h1.cell zj1;have r2:=h1.cell zb1;have r3:=h1.cell xj1;have r4:=h1.cell xb1;have hcw:=fun b o => Below.cell (p:=⟨b,o,none⟩) h1;go_simp;rfl
          simp only [actS];apply Run.valG (by go_simp)
          ·intro w1 h1 hk;go_simp;rfl
          simp only [actS];apply Run.valG (by go_simp)
          ·intro w1 h1 hk;have r1:=h1.cell zj1;have r2:=h1.cell zb1;have r3:=h1.cell xj1;have r4:=h1.cell xb1;have hcw:=fun b o => Below.cell (p:=⟨b,o,none⟩) h1;go_simp;rfl
          simp only [actS]
          iterate 3
           apply Run.valG (by go_simp)
           ·intro w1 h1 hk;go_simp;rfl
           simp only [actS]
          apply Run.valG (by go_simp)
          ·intro w1 h1 hk;have r1:=h1.cell zj1;have r2:=h1.cell zb1;have r3:=h1.cell xj1;have r4:=h1.cell xb1;have hcw:=fun b o => Below.cell (p:=⟨b,o,none⟩) h1;go_simp;rfl
          simp only [actS];apply Run.valG (by go_simp)
          ·intro w1 h1 hk;go_simp;rfl
          simp only [actS];apply Run.valG (by go_simp)
          ·intro w1 h1 hk;have r1:=h1.cell zj1;have r2:=h1.cell zb1;have r3:=h1.cell xj1;have r4:=h1.cell xb1;have hcw:=fun b o => Below.cell (p:=⟨b,o,none⟩) h1;go_simp;rfl
          simp only [actS]
          iterate 2
           apply Run.valG (by go_simp)
           ·intro w1 h1 hk;go_simp;rfl
           simp only [actS]
          apply Run.valG (wanted_none rfl _)
          ·intro w1 h1 hk;go_simp;rfl
          simp only [actS];apply Run.done;intro w2 h2 hk;clear hk;have F9:=Hh (hFz.out.trans ((Fut.drew _).trans h2));clear h2;go_wp2;go_roundw
          case rel => exact ⟨j+1,by omega,by go_num,by rw [hx9'.out];rfl,F9⟩
          case measure => simp [intOf] <;> omega
       ·have w1:(wj == 0)=false:=by rw [beq_eq_false_iff_ne];exact hw0
        have hx9':=Hh (hx9.trans (if_neg (fun h => hw0 h.1)));clear hx9;go_wp2;refine wp_graph 21 [.d,.d,.d,.d,.d,.d,.d,.d,.d,.d,.d,.d,.d,.d,.d,.d,.d,.d,.d,.d,.d] (by kernel_rfl) (by kernel_rfl) (by kernel_rfl) ?_;simp only [takS,Exs]
        iterate 21 apply Exists.intro
        iterate 3
         apply Run.valG (wanted_none rfl _)
         ·intro w1 h1 hk;go_simp;rfl
         simp only [actS]
        iterate 17
         apply Run.skip (by first|(go_simp;done)|(go_simp;exact fun h => nomatch h));simp only [actS]
        apply Run.valG (wanted_none rfl _)
        ·intro w1 h1 hk;go_simp;rfl
        simp only [actS];apply Run.done;intro w2 h2 hk;clear hk;have F9:=Hh (hFz.out.trans ((Fut.drew _).trans h2));clear h2;go_wp2;go_roundw
        case rel => exact ⟨j+1,by omega,by go_num,by rw [hx9'.out];exact hx,F9⟩
        case measure => simp [intOf] <;> omega
      ·obtain rfl:n=j:=by omega
       rw [hpa'.out] at hx;unfold pkV at hx;dsimp only at hx;subst hx;have hanI:(a:Int)<n:=by omega
       have ea:(0:Int)≤a∧(a:Int)<n:=by omega
       have hA1:=hA.out.fut hFz.out;have d0:=hA1.wait.cell han;have d1:=hA1.wait.free a;have hS9:=hA1.setWait a (-1);have hO9:Only (fun j => j=w2.heap.size) wz (wz.setCell ⟨w2.heap.size,a,none⟩ (.int .i64 (-1))):=Only.set _ _ rfl;obtain ⟨wS,hwS⟩:∃ x,wz.setCell ⟨w2.heap.size,a,none⟩ (.int .i64 (-1))=x:=⟨_,rfl⟩
       rw [hwS] at hS9 hO9;have hOu1:=hOu.out.fut RLs.stays hFz.out
       have hOuS:OwnL 1 (w2.heap.size+2) 76 (RLs w.heap.size (.slice none 0 0)) wS _ (dn.map fun a => T.out.getD a []):=hOu1.only (fun cs x hx => hx.only hO9 fun k arr hk e => by
        obtain ⟨arr2,g,_⟩:=hA1.wait;exact other_block hk g (by decide) e) hO9 fun k hk e => by
        have:=(hOu1.block k hk).1;omega
       have hFS:Fut w2 wS:=((Only.fut (hFr.out.trans hFz.out)).trans (hO9.mono (S':=fun j => w2.heap.size≤j) fun k _ e => by omega)).toFut fun k h => h;obtain ⟨va,y1,hva⟩:=hS9.aboveAt han;obtain ⟨Aa,ca,rfl,hal1,hal2⟩:=hva.rep.form;have hall:=aboveP_len G T n a;have hal3:(aboveP G T n a).length≤9223372036854775807:=by omega
       have hallt:=Hh (aboveP_lt (G:=G) (T:=T) (n:=n) (j:=a));have hlayh:layP G T wt a=(aboveP G T n a).foldl downP (fun j => if j=a then -1 else wt j):=by unfold layP;rw [hn'.out]
       replace hS9:=Hh hS9;replace hOuS:=Hh hOuS;replace hFS:=Hh hFS;replace hva:=Hh hva;rw [← hwS] at y1;replace hwS:=Hh hwS;replace hlayh:=Hh hlayh;obtain ⟨al,hal⟩:∃ al,aboveP G T n a=al:=⟨_,rfl⟩
       rw [hal] at hva hlayh hallt hal3 hall y1;generalize (fun j => if j=a then -1 else wt j)=wt1 at *;clear hOu1 hO9 hA1 hal hFz hA hOu hFr hal1 hal2;go_wp2_with fail;rw [hwS.out];go_loopw [133] (fun i wz => ∃ m:Nat,m≤al.length∧i = .int .i64 m∧Hid (AbI wz w2.heap.size (w2.heap.size+1) (w2.heap.size+2) n ((al.take m).foldl downP wt1) (aboveP G T n))∧Hid (Fut w2 wz)∧Hid (OwnL 1 (w2.heap.size+2) 3 RIn wz (.slice Aa al.length ca) al)∧Hid (OwnL 1 (w2.heap.size+2) 76 (RLs w.heap.size (.slice none 0 0)) wz u16 (dn.map fun a => T.out.getD a []))) (fun i _ => al.length - (intOf i).toNat)
       case atStart => exact ⟨0,Nat.zero_le _,rfl,hS9,hFS,hva,hOuS⟩
       case round =>
        obtain ⟨m8,hm8,rfl,hA8,hF8,hv8,hO8⟩:=hrel;obtain ⟨wy,rfl⟩:∃ x,x=wr:=⟨_,rfl⟩
        by_cases hlm:m8<al.length
        ·have hlmI:(m8:Int)<al.length:=by omega
         have e3:(0:Int)≤m8∧(m8:Int)<al.length:=by omega
         obtain ⟨b3,off3,rfl,z3⟩:=in_at hv8.out.rep hlm;have hx3:=hallt.out _ (List.getElem_mem hlm);have hnx3:=Hh (show (al.take (m8+1)).foldl downP wt1=downP ((al.take m8).foldl downP wt1) al[m8] by rw [List.take_succ_eq_append_getElem hlm,List.foldl_append];rfl);generalize al[m8]=x at *;generalize (al.take m8).foldl downP wt1=wt2 at *;have hxI:(x:Int)<n:=by omega
         have e4:(0:Int)≤x∧(x:Int)<n:=by omega
         have k0:=hA8.out.wait.cell hx3;have k1:=hA8.out.wait.free x;have hS7:=hA8.out.setWait x (wrapP (wt2 x - 1));have hO7:Only (fun j => j=w2.heap.size) wy (wy.setCell ⟨w2.heap.size,x,none⟩ (.int .i64 (wrapP (wt2 x - 1)))):=Only.set _ _ rfl;unfold wrapP at hS7 hO7;obtain ⟨wT,hwT⟩:∃ y,wy.setCell ⟨w2.heap.size,x,none⟩ (.int .i64 (wrap64 (wt2 x - 1)))=y:=⟨_,rfl⟩
         rw [hwT] at hS7 hO7;have HS7:=Hh (show AbI wT w2.heap.size (w2.heap.size+1) (w2.heap.size+2) n ((al.take (m8+1)).foldl downP wt1) (aboveP G T n) by rw [hnx3.out];exact hS7);have HF7:=Hh (((Only.fut hF8.out).trans (hO7.mono (S':=fun j => w2.heap.size≤j) fun k _ e => by omega)).toFut fun k h => h);have HV7:=Hh (show OwnL 1 (w2.heap.size+2) 3 RIn wT (.slice (some ⟨b3,off3,none⟩) al.length ca) al from hv8.out.only (fun _ _ h => h) hO7 fun k hk e => by have:=(hv8.out.block k hk).1;omega)
         have HOu7:=Hh (show OwnL 1 (w2.heap.size+2) 76 (RLs w.heap.size (.slice none 0 0)) wT u16 (dn.map fun a => T.out.getD a []) from hO8.out.only (fun cs x hx => hx.only hO7 fun k arr hk e => by
          obtain ⟨arr2,g,_⟩:=hA8.out.wait;exact other_block hk g (by decide) e) hO7 fun k hk e => by
          have:=(hO8.out.block k hk).1;omega)
         replace hwT:=Hh hwT;generalize wt2 x=wx at *;clear hA8 hF8 hv8 hO8 hS7 hO7;go_wp2;rw [hwT.out];go_roundw
         case rel => exact ⟨m8+1,by omega,by go_num,HS7,HF7,HV7,HOu7⟩
         case measure => simp [intOf] <;> omega
        ·obtain rfl:m8=al.length:=by omega
         rw [List.take_length,← hlayh.out] at hA8;have haT:a<T.out.length:=by rw [hn'.out];exact han
         obtain ⟨ba,oa,va,hea,za,hva2⟩:=ls_at HO.out.rep haT;subst hea;have za1:=hF8.out.cell za;have hgd:T.out.getD a []=T.out[a]:=by rw [List.getD_eq_getElem?_getD,List.getElem?_eq_getElem haT];rfl
         rw [← hgd] at hva2;have hdl8:(dn.map fun a => T.out.getD a []).length≤100000000:=by rw [List.length_map,hdl.out];omega
         have hnxt:=Hh (show ((dn++[a]).map fun a => T.out.getD a [])=(dn.map fun a => T.out.getD a [])++[T.out.getD a []] by rw [List.map_append];rfl);have hdr2:=Hh (show (dn++[a])++rest'=l0 by rw [List.append_assoc];exact hdr.out);have hdl2:=Hh (show (dn++[a]).length=q+1 by rw [List.length_append,hdl.out];rfl);have hre2:=Hh (show ordP G T (n - (q+1)) (layP G T wt a)=some rest' by rw [show n - (q+1)=m by have:=hm9'.out;omega];exact hre'.out);obtain ⟨pa,hpa9⟩:∃ p,T.out.getD a []=p:=⟨_,rfl⟩
         rw [hpa9] at hva2 hnxt;generalize (dn.map fun a => T.out.getD a [])=dnl at *;obtain ⟨Ao,co,rfl,ho1,ho2⟩:=hO8.out.rep.form;have hb9:w2.heap.size+2≤wy.heap.size:=hA8.out.low.2.2.2;have fa:=Fut.alloc wy (.cells #[va] 76);have hva3:=Hh (hva2.fut RNm.stays hF8.out);have hvA:∃ A9 c9,va = .slice A9 pa.length c9:=by obtain ⟨A9,c9,h,_,_⟩:=hva2.rep.form;exact ⟨A9,c9,h⟩
         obtain ⟨A9,c9,rfl⟩:=hvA;clear hva2 za hgd hpa9 ho1 ho2 HO;go_wp2_with (first|(at_builtin;refine wpList_append_LB (R:=RLs w.heap.size (.slice none 0 0)) (B:=w2.heap.size+2) (M:=1) (xs:=dnl) (ys:=[pa]) (e:=76) (by go_simp) _ _ tLL rfl Tryz.underlying25 (.slice none 0 0) 24 infoTL rfl (by decide) RLs.one RLs.keeps rfl rfl (hO8.out.fut RLs.stays fa) (llOne _ _ hva3.out (Nat.le_refl _) (fun k _ e => by cases e)) ?l3 ?l4 ?b3 ?k3))
         case l3 => simp [maxLen];omega
         case l4 => simp;omega
         case b3 => simp;omega
         case k3 =>
         intro v' w' o' g' sn';have HO9:=Hh (by rw [← hnxt.out] at o';exact o');have g9:Only (fun k => (Value.slice Ao dnl.length co).ownBlock=some k) (wy.alloc (.cells #[.slice A9 pa.length c9] 76)) w':=Only.grown g' fun k hk => hk;have HF9:=Hh (show Fut w2 w' from ((Only.fut (hF8.out.trans fa)).trans (g9.mono (S':=fun j => w2.heap.size≤j) fun k _ e => by have:=(hO8.out.block k e).1;omega)).toFut fun k h => h)
         have HA9:=Hh ((hA8.out.fut fa).only2 g9 fun k arr t ht hk e => by
          obtain ⟨arr2,h9⟩:=(hO8.out.fut RLs.stays fa).typed k e;exact other_block hk h9 (by rcases ht with rfl|rfl <;> decide) rfl)
         clear o' g' sn' g9 hA8 hF8 hO8 hv8 hS9 hFS hva hOuS hwS hallt;go_wp2;go_roundw
         case rel => exact ⟨q+1,_,dn++[a],rest',by omega,by go_num,hre2,hdr2,hdl2,HA9,HO9,HF9⟩
         case measure => simp [intOf] <;> omega
    ·obtain rfl:n=q:=by omega
     have hor':=hor.out;rw [Nat.sub_self] at hor';unfold ordP at hor';have hr0:rest=[]:=(Option.some.inj hor').symm
     have hdn:dn=l0:=by
      have:=hdr.out;rw [hr0,List.append_nil] at this;exact this
     have HFin:=Hh (show OwnL 1 w.heap.size 76 (RLs w.heap.size (.slice none 0 0)) wA u16 (l0.map fun a => T.out.getD a [])∧Fut w wA from ⟨by rw [← hdn];exact hOu.out.base (by have:=F2.out.size;omega),F2.out.trans hFr.out⟩);clear hor' hor hdr hdl hA hOu hFr hF hI HO;go_wp2
     (try simp only [Exit.inBlock,Exit.then])
     refine bodyPost_ret (v:=u16) (by simp [results,Tryz.results9,go_sem]) rfl ?_;exact ⟨_,rfl,HFin.out.1,HFin.out.2⟩
end Go.Proofs.YtobabnpllokkaaaGreatDoor
namespace Go.Proofs.YtobabnpllokkaaaGreatDoor
open Go.RowKit Go.WideMaps Go.Maps
theorem least_ex {p:Nat→Prop}:∀ n,p n→∃ m,p m∧∀ k,p k→m≤k:=by
 intro n
 induction n using Nat.strongRecOn with
 | _ n ih =>
  intro hn
  by_cases h:∃ m,m<n∧p m
  ·obtain ⟨m,hm,hp⟩:=h;exact ih m hm hp
  ·exact ⟨n,hn,fun k hk => Nat.le_of_not_lt fun hlt => h ⟨k,hlt,hk⟩⟩
open Classical in
noncomputable def leastF (p:Nat→Prop):Nat:=if h:∃ m,p m∧∀ k,p k→m≤k then h.choose else 0
theorem leastF_spec {p:Nat→Prop} {n:Nat} (h:p n):p (leastF p)∧∀ k,p k→leastF p≤k:=by
 have h':=least_ex n h;unfold leastF;rw [dif_pos h'];exact h'.choose_spec
theorem wp_scope_jumps2 {P:Program} {a:Act} {w:World} {Q:Exit→Act→World→Prop} {c rest:Code} (l:Nat) (J:Act→World→Prop) (μ:Act→World→Nat) (hf:findLabel c l=some (.seq .skip rest))
    (pass:∀ a w,J a w→rest.wp P (Exit.jump l (fun a' w' => J a' w'∧μ a' w'<μ a w) Q) a w)
    (first:Hid (∀ a w,J a w→rest.wp P (Exit.jump l J Q) a w)→c.wp P (Exit.jump l J Q) a w):(Code.scope c).wp P Q a w :=
 wp_scope_jumps l J μ hf (first (Hh fun a w h => wp_mono (pass a w h) fun e a' w' hq => by
  cases e with
  | goto l' => exact ⟨hq.1,hq.2.1⟩
  | _ => exact hq)) fun a w h => wp_seq (wp_skip (pass a w h))
theorem putN_mem {l:Nums} {s:ByteArray} {n:Nat}:∀ x ∈ putN l s n,x ∈ l∨x=(s,n):=fun x hx => by
 unfold putN at hx;obtain ⟨y,hy,rfl⟩:=List.mem_map.1 hx
 by_cases h:y.1=s
 ·right;simp [h]
 ·left;simp [h,hy]
theorem setN_mem {l:Nums} {s:ByteArray} {n:Nat}:∀ x ∈ setN l s n,x ∈ l∨x=(s,n):=fun x hx => by
 unfold setN at hx
 split at hx
 ·rcases List.mem_append.1 hx with h|h
  ·exact .inl h
  ·exact .inr (List.mem_singleton.1 h)
 ·exact putN_mem x hx
theorem lk0_le {l:Nums} {B:Nat} (h:∀ x ∈ l,x.2≤B) (s:ByteArray):lk0 l s≤B:=by
 unfold lk0 lkN;cases hq:l.find? fun x => decide (x.1=s) with
 | none => exact Nat.zero_le _
 | some x => exact h x (List.mem_of_find?_eq_some hq)
theorem wants_le {l:Nums} {B:Nat} (h:∀ x ∈ l,x.2≤B) (e:Ed):e.wants l≤B+1:=by
 unfold Ed.wants;have:=lk0_le h e.t
 split <;> omega
structure OkN (n:Nums) (B:Nat):Prop where
 nm:∀ x ∈ n,x.1.size≤140737488351232
 le:∀ x ∈ n,x.2≤B
theorem OkN.step {s:Nums×Bool} {B:Nat} (h:OkN s.1 B) {e:Ed} (he:e.f.size≤140737488351232):OkN (stepR s e).1 (B+1):=by
 unfold stepR
 split
 ·refine ⟨fun x hx => ?_,fun x hx => ?_⟩
  ·rcases setN_mem x hx with h1|rfl
   ·exact h.nm x h1
   ·exact he
  ·rcases setN_mem x hx with h1|rfl
   ·have:=h.le x h1;omega
   ·exact wants_le h.le e
 ·exact ⟨h.nm,fun x hx => Nat.le_succ_of_le (h.le x hx)⟩
theorem OkN.fold:∀ (es:List Ed) {s:Nums×Bool} {B:Nat},OkN s.1 B→(∀ e ∈ es,e.f.size≤140737488351232)→OkN (es.foldl stepR s).1 (B+es.length)
 | [],s,B,h,_ => h
 | e :: r,s,B,h,he => by
  rw [List.foldl_cons,List.length_cons,show B+(r.length+1)=B+1+r.length by omega];exact OkN.fold r (h.step (he e List.mem_cons_self)) fun x hx => he x (List.mem_cons_of_mem _ hx)
theorem raise_ok {es:List Ed} {f:Nat} {n nf:Nums} (h:raiseR es f n=some nf):∃ f',f=f'+1∧(∀ x ∈ n,x.2≤100000000)∧((roundR es n).2=true→raiseR es f' (roundR es n).1=some nf)∧((roundR es n).2=false→(roundR es n).1=nf):=by
 cases f with
 | zero => cases h
 | succ f =>
  unfold raiseR at h
  split at h
  ·rename_i h1;refine ⟨f,rfl,fun x hx => by simpa using List.all_eq_true.1 h1 x hx,fun h2 => ?_,fun h2 => ?_⟩
   ·rw [if_pos h2] at h;exact h
   ·rw [if_neg (by rw [h2];decide)] at h;exact Option.some.inj h
  ·cases h
abbrev tLev:TypeId:=126
def RLv (_:World) (cs:List Value) (x:ByteArray×Nat):Prop:=cs=[.string x.1,.int .i32 (x.2:Nat)]
theorem RLv.stays:Stays RLv:=fun _ _ _ _ _ h => h
theorem RLv.keeps {e:TypeId}:Keeps e RLv:=fun _ _ _ _ _ h _ _ => h
theorem RLv.one:∀ (w:World) cs x,RLv w cs x→∀ u ∈ cs,u.oneCell'=true:=fun w cs x h u hu => by
 obtain rfl:cs=_:=h;simp only [List.mem_cons,List.not_mem_nil,or_false] at hu;rcases hu with rfl|rfl <;> rfl
theorem infoLv:(Tryz.prog.info? 126).map (fun i => (i.zero,i.size,i.bytes))=some (some (.agg #[.string ⟨#[]⟩,.int .i32 0]),2,24):=by kernel_rfl
theorem lvOne (w:World) (s:ByteArray) (n:Nat) (e:TypeId):SlRep 2 1 RLv (w.alloc (.cells #[.string s,.int .i32 (n:Nat)] e)) (.slice (some ⟨w.heap.size,0,none⟩) 1 1) [(s,n)]:=slOne w [.string s,.int .i32 (n:Nat)] _ e rfl rfl
def LevJ (w0:World) (es:List Ed) (G:Gr) (nf:Nums) (f:Nat) (a:Act) (W:World):Prop :=
 ∃ (Ae:Option Addr) (ce mb mbl:Nat) (n:Nums) (wb:World),
  Hid (Fut w0 wb)∧Hid (OwnL 4 w0.heap.size tEdge REd wb (.slice Ae es.length ce) es)∧Hid (GrI w0.heap.size wb mb G)∧Hid (wb.heap.size≤mbl)∧Hid (Fut wb W)∧Hid (MapE strV W mbl (encQ n))∧Hid (OkN n 100000000)∧Hid (raiseR es f n=some nf) ∧
  ∃ (u0 u1 u2 u3 u4 u7 u8 u9 u10 u12 u13 u14 u15 u16 u17 u18 u19 u20 u21 u22 u23 u24 u25 u26 u27 u28 u29 u30 u31 u32 u33 u34 u35 u36 u37 u38 u39 u40 u41 u42 u43 u44 u45 u46 u47 u48 u49 u50 u51 u52 u53 u54 u55 u56 u57 u58 u59 u60 u61 u62 u63 u64 u65 u66 u67 u68 u69 u70 u71 u72 u73 u74 u75 u76 u77 u78 u79 u80 u81 u82 u83 u84 u85 u86 u87 u88 u89 u90 u91 u92 u93 u94 u95 u96 u97 u98 u99 u100 u101 u102 u103 u104 u105:Value),a=⟨#[u0,u1,u2,u3,u4,.slice Ae es.length ce,.map (some mb),u7,u8,u9,u10,.map (some mbl),u12,u13,u14,u15,u16,u17,u18,u19,u20,u21,u22,u23,u24,u25,u26,u27,u28,u29,u30,u31,u32,u33,u34,u35,u36,u37,u38,u39,u40,u41,u42,u43,u44,u45,u46,u47,u48,u49,u50,u51,u52,u53,u54,u55,u56,u57,u58,u59,u60,u61,u62,u63,u64,u65,u66,u67,u68,u69,u70,u71,u72,u73,u74,u75,u76,u77,u78,u79,u80,u81,u82,u83,u84,u85,u86,u87,u88,u89,u90,u91,u92,u93,u94,u95,u96,u97,u98,u99,u100,u101,u102,u103,u104,u105],[]⟩
noncomputable def LevM (w0:World) (es:List Ed) (G:Gr) (nf:Nums) (a:Act) (W:World):Nat:=leastF fun f => LevJ w0 es G nf f a W
theorem lev_next {w0:World} {es:List Ed} {G:Gr} {nf:Nums} {f:Nat} {a:Act} {W:World} (h:LevJ w0 es G nf f a W):(∃ f,LevJ w0 es G nf f a W)∧LevM w0 es G nf a W<f+1:=⟨⟨f,h⟩,Nat.lt_succ_of_le ((leastF_spec (p:=fun f => LevJ w0 es G nf f a W) h).2 f h)⟩
theorem gsorted_len (G:Gr):G.sorted.length≤G.length:=by
 have hi:∀ (x:ByteArray) (m:List ByteArray),(insU cmpS x m).length≤m.length+1:=fun x m => by
  induction m with
  | nil => simp [insU]
  | cons y r ih =>
   unfold insU
   split
   ·simp
   ·split
    ·simp
    ·simp only [List.length_cons];omega
 have hs:∀ l:List ByteArray,(sortU cmpS l).length≤l.length:=fun l => by
  induction l with
  | nil => simp [sortU]
  | cons x r ih =>
   have h:=hi x (sortU cmpS r);show (insU cmpS x (sortU cmpS r)).length≤_;rw [List.length_cons];omega
 have:=hs G.names;unfold Gr.names at this;rw [List.length_map] at this;exact this
set_option maxHeartbeats 4000000 in
set_option maxRecDepth 100000 in
theorem levelsG_any {M:Nat} (A:Option Addr) (c:Nat) (rs:List Ru) (w:World) (h:SlRep 3 M RRu w (.slice A rs.length c) rs) (hM:M≤9223372036854775807) (hS:Small rs) (N:Nat) (T:TS) (hT:tarjT (drawP rs) N=some T) (hGl:(drawP rs).length≤100000000) (hx:blameE T.inn (edgesP rs)=none) (nf:Nums) (f0:Nat) (hf0:raiseR (edgesP rs) f0 []=some nf) :
    Calls Tryz.prog 74 #[.agg #[.slice A rs.length c]] w fun e w' => ∃ v,e = .returned (.tuple #[v,.int .i64 0,.int .i64 0])∧OwnL 2 w.heap.size tLev RLv w' v ((drawP rs).sorted.map fun s => (s,lk0 nf s))∧Fut w w':=by
 obtain ⟨_,_,hv,hl1,hl2⟩:=h.form;have hxl:rs.length≤9223372036854775807:=by omega
 have HE:=Hh (fun W (hW:Fut w W) => edges_any A c rs W (h.fut RRu.stays hW) hM hS);have HD:=Hh (fun W (hW:Fut w W) => draw_any A c rs W (h.fut RRu.stays hW) hM hS);have HO:=Hh (edgeP_ok h);have HN:=hS.edges;obtain ⟨es,hes⟩:∃ es,edgesP rs=es:=⟨_,rfl⟩
 obtain ⟨G,hG9⟩:∃ G,drawP rs=G:=⟨_,rfl⟩
 simp only [hes] at HE HO HN hx hf0;simp only [hG9] at HD hT hGl ⊢;have hbx:=heap_alloc_new w (.cells #[.slice A rs.length c] 28);have F0:=Hh (Fut.alloc w (.cells #[.slice A rs.length c] 28));have c0:=cell_at hbx 0 (.slice A rs.length c) rfl;have hT':=Hh hT;have hGl':=Hh hGl;have hx':=Hh hx;have hf0':=Hh hf0;replace HN:=Hh HN;clear h hS hl1 hl2 hv hbx hT hGl hx hes hG9 hf0;go_enter Tryz.func74,Tryz.ntmps74;go_wp2_with fail;refine wp_scope_jumps2 0 (fun a W => ∃ f,LevJ w es G nf f a W) (LevM w es G nf) rfl ?pass ?first
 case pass =>
  intro a W hJ;obtain ⟨f,hJ⟩:=hJ;have hm9:=leastF_spec (p:=fun f => LevJ w es G nf f a W) hJ;rw [show LevM w es G nf a W=leastF (fun f => LevJ w es G nf f a W) from rfl];generalize leastF (fun f => LevJ w es G nf f a W)=m at *;obtain ⟨hJ,-⟩:=hm9;obtain ⟨Ae,ce,mb,mbl,n,wb,F0b,HO3,HG,HB,FB,HM,HK,HR,z0,z1,z2,z3,z4,z7,z8,z9,z10,z12,z13,z14,z15,z16,z17,z18,z19,z20,z21,z22,z23,z24,z25,z26,z27,z28,z29,z30,z31,z32,z33,z34,z35,z36,z37,z38,z39,z40,z41,z42,z43,z44,z45,z46,z47,z48,z49,z50,z51,z52,z53,z54,z55,z56,z57,z58,z59,z60,z61,z62,z63,z64,z65,z66,z67,z68,z69,z70,z71,z72,z73,z74,z75,z76,z77,z78,z79,z80,z81,z82,z83,z84,z85,z86,z87,z88,z89,z90,z91,z92,z93,z94,z95,z96,z97,z98,z99,z100,z101,z102,z103,z104,z105,rfl⟩:=hJ;obtain ⟨m',rfl,hb8,hr1,hr2⟩:=raise_ok HR.out;have HR1:=Hh hr1;have HR2:=Hh hr2;clear hr1 hr2 hb8 HR;obtain ⟨_,_,hel0,hel1,hel2⟩:=HO3.out.rep.form;have hel3:es.length≤9223372036854775807:=by unfold maxLen at hel2;omega
  clear hel0 hel1 hel2 HE HD hx' hT' c0;go_wp2_with fail;go_loopw [12,64] (fun r i wr => ∃ (k:Nat) (st:Nums×Bool),k≤es.length∧i = .int .i64 k∧r = .bool st.2∧Hid ((es.take k).foldl stepR (n,false)=st)∧Hid (Fut wb wr)∧Hid (MapE strV wr mbl (encQ st.1))) (fun _ i _ => es.length - (intOf i).toNat)
  case atStart => exact ⟨0,(n,false),Nat.zero_le _,rfl,rfl,Hh rfl,FB,HM⟩
  case round =>
   obtain ⟨k,⟨n1,r1⟩,hk,rfl,rfl,hS,hF,hMm⟩:=hrel;dsimp only at *;have hok:=hS.out ▸ OkN.fold (es.take k) (s:=(n,false)) HK.out (fun e he => (HO.out e (List.mem_of_mem_take he)).1);rw [List.length_take] at hok;have HOk:=Hh hok;clear hok
   by_cases hlt:k<es.length
   ·have hltI:(k:Int)<es.length:=by omega
    have e0:(0:Int)≤k∧(k:Int)<es.length:=by omega
    obtain ⟨b',off,rfl,hcs⟩:=ed_at' (HO3.out.fut REd.stays hF.out).rep hlt;have hsn:=Hh (show (es.take (k+1)).foldl stepR (n,false)=stepR (n1,r1) es[k] by rw [List.take_succ_eq_append_getElem hlt,List.foldl_append,hS.out];rfl);have hsz:=HO.out _ (List.getElem_mem hlt);have hN9:=HN.out;obtain ⟨y,hyk⟩:∃ y,es[k]=y:=⟨_,rfl⟩
    rw [hyk] at hcs hsn hsz;clear hyk;obtain ⟨w4,hw4⟩:∃ W,wr.alloc (.cells [.string y.f,.string y.t,.int .i8 y.k,.int .i64 y.r].toArray 129)=W:=⟨_,rfl⟩
    have f1:Fut wr w4:=by rw [← hw4];exact Fut.alloc _ _
    have hrb:w4.heap[wr.heap.size]?=some (.cells #[.string y.f,.string y.t,.int .i8 y.k,.int .i64 y.r] 129 (0,0)):=by rw [← hw4];exact heap_alloc_new wr _
    have q0:=cell_at hrb 0 (.string y.f) rfl;have q1:=cell_at hrb 1 (.string y.t) rfl;have q2:=cell_at hrb 2 (.int .i8 y.k) rfl;have q3:=cell_at hrb 3 (.int .i64 y.r) rfl;have hm4:=hMm.out.fut f1;have l1:(Instr.lookup tVq (.map (some mbl)) (.string y.f) false).run Tryz.prog w4 = .ok (.int .i32 (lk0 n1 y.f:Nat)) w4:=(look_q hm4 HOk.out.nm hsz.1).2;have l2:(Instr.lookup tVq (.map (some mbl)) (.string y.t) false).run Tryz.prog w4 = .ok (.int .i32 (lk0 n1 y.t:Nat)) w4:=(look_q hm4 HOk.out.nm hsz.2).2;have p9:=lk0_le HOk.out.le y.f;have q9:=lk0_le HOk.out.le y.t
    have hone:∀ v ∈ ([.string y.f,.string y.t,.int .i8 y.k,.int .i64 y.r]:List Value),v.oneCell'=true:=fun v hv => by
     simp only [List.mem_cons,List.not_mem_nil,or_false] at hv;rcases hv with rfl|rfl|rfl|rfl <;> rfl
    have hw4h:=Hh hw4;have hcs9:=Hh hcs;have FN:=Hh (hF.out.trans f1);have HM4:=Hh hm4;have hset:=Hh (fun v => set_q hm4 HOk.out.nm hsz.1 v);have fin:∀ v w5,MapE strV w5 mbl (encQ (setN n1 y.f v))→w4.grownBy w5 (some mbl)→Hid (Fut wb w5)∧Hid (MapE strV w5 mbl (encQ (setN n1 y.f v,true).1)):=fun v w5 h1 h2 => ⟨Hh (FN.out.grown h2 fun k hk => by injection hk with hk;rw [← hk];exact HB.out),Hh h1⟩
    have HFin:=Hh fin;clear hw4 f1 hrb hcs hsz hm4 fin;unfold stepR Ed.wants Ed.strict at hsn;dsimp only at hsn;generalize lk0 n1 y.f=pf at *;generalize lk0 n1 y.t=pt at *
    by_cases e1:y.k=1
    ·rw [e1] at hsn;have hsn1:(if (!decide ((1:Int)=1))=true then pt+1 else pt)=pt:=rfl;rw [hsn1] at hsn;have e2:(y.k == 1)=true:=by rw [e1];rfl
     have e3:(y.k != 1)=false:=by rw [e1];rfl
     by_cases e4:pf<pt
     ·rw [if_pos e4] at hsn;have e5:(pf:Int)<(pt:Int):=by omega
      obtain ⟨w5,hr5,h6,h7⟩:=hset.out pt;obtain ⟨HF5,HM5⟩:=HFin.out pt w5 h6 h7;clear h6 h7 hset;go_wp2_with (first|(refine wpList_rangeBox [.string y.f,.string y.t,.int .i8 y.k,.int .i64 y.r] rfl rfl rfl rfl rfl rfl rfl hcs9.out Tryz.underlying129 infoEdZ' rfl hone rfl rfl hw4h.out ?_));go_roundw
      case rel => exact ⟨k+1,(_,true),by omega,by go_num,rfl,hsn,HF5,HM5⟩
      case measure => simp [intOf] <;> omega
     ·rw [if_neg e4] at hsn;have e5:¬ (pf:Int)<(pt:Int):=by omega
      go_wp2_with (first|(refine wpList_rangeBox [.string y.f,.string y.t,.int .i8 y.k,.int .i64 y.r] rfl rfl rfl rfl rfl rfl rfl hcs9.out Tryz.underlying129 infoEdZ' rfl hone rfl rfl hw4h.out ?_));go_roundw
      case rel => exact ⟨k+1,(n1,r1),by omega,by go_num,rfl,hsn,FN,HM4⟩
      case measure => simp [intOf] <;> omega
    ·have e2:(y.k == 1)=false:=by rw [beq_eq_false_iff_ne];exact e1
     have e3:(y.k != 1)=true:=by simp [bne,e2]
     rw [decide_eq_false e1] at hsn;have hsn1:(if (!false)=true then pt+1 else pt)=pt+1:=rfl;rw [hsn1] at hsn
     have ew:IntKind.i32.wrap ((pt:Int)+1)=(pt:Int)+1:=by
      unfold IntKind.wrap;simp [IntKind.bits,IntKind.signed];omega
     by_cases e4:pf<pt+1
     ·rw [if_pos e4] at hsn;have e5:(pf:Int)<(pt:Int)+1:=by omega
      have e6:(pf:Int)≤(pt:Int):=by omega
      have e7:pf≤pt:=by omega
      obtain ⟨w5,hr5,h6,h7⟩:=hset.out (pt+1);rw [show ((pt+1:Nat):Int)=(pt:Int)+1 from by omega] at hr5;obtain ⟨HF5,HM5⟩:=HFin.out (pt+1) w5 h6 h7;clear h6 h7 hset;go_wp2_with (first|(refine wpList_rangeBox [.string y.f,.string y.t,.int .i8 y.k,.int .i64 y.r] rfl rfl rfl rfl rfl rfl rfl hcs9.out Tryz.underlying129 infoEdZ' rfl hone rfl rfl hw4h.out ?_));go_roundw
      case rel => exact ⟨k+1,(_,true),by omega,by go_num,rfl,hsn,HF5,HM5⟩
      case measure => simp [intOf] <;> omega
     ·rw [if_neg e4] at hsn;have e5:¬ (pf:Int)<(pt:Int)+1:=by omega
      have e6:¬ (pf:Int)≤(pt:Int):=by omega
      have e7:¬ pf≤pt:=by omega
      go_wp2_with (first|(refine wpList_rangeBox [.string y.f,.string y.t,.int .i8 y.k,.int .i64 y.r] rfl rfl rfl rfl rfl rfl rfl hcs9.out Tryz.underlying129 infoEdZ' rfl hone rfl rfl hw4h.out ?_));go_roundw
      case rel => exact ⟨k+1,(n1,r1),by omega,by go_num,rfl,hsn,FN,HM4⟩
      case measure => simp [intOf] <;> omega
   ·obtain rfl:k=es.length:=by omega
    rw [List.take_length] at hS;have hrr:roundR es n=(n1,r1):=hS.out;have hx1:=HR1.out;have hx2:=HR2.out;rw [hrr] at hx1 hx2;cases r1
    ·obtain rfl:n1=nf:=hx2 rfl;have HNm:=Hh (names_any wr (HG.out.fut hF.out) hGl'.out);have hGz:=HG.out.sizes;have FWr:=Hh (F0b.out.trans hF.out);have hMm2:=Hh hMm.out;have HNam:=Hh HOk.out.nm;clear hS hrr hx1 hx2 HR1 HR2 HK HOk hlt hk hel3 HO3 HG;go_wp2_with fail;refine HNm.out.mono ?_;rintro e w6 ⟨vn,rfl,hvn,f6⟩;have hGs:=Hh (show ∀ x ∈ G.sorted,x.size≤140737488351232 from fun x hx => hGz x (((sortU_spec totS _).2 x).1 hx));obtain ⟨Nl,hNl⟩:∃ x,G.sorted=x:=⟨_,rfl⟩
     have hlen:Nl.length≤100000000:=by
      rw [← hNl];exact Nat.le_trans (gsorted_len G) hGl'.out
     rw [hNl] at hvn hGs;obtain ⟨Av,cv,rfl,hvl,hvc⟩:=hvn.rep.form;have hns:=Hh hvn;have hNl':=Hh hNl;have F6:=Hh (FWr.out.trans f6);have M6:=Hh (hMm2.out.fut f6);have hvl0:Nl.length≤9223372036854775807:=by omega
     have HL:=Hh hlen;have hzW:=Hh FWr.out.size;clear hvn hNl hGz f6 hvl hvc HNm hlen;go_wp2_with fail;go_loopw [16,92] (fun u i wq => ∃ k:Nat,k≤Nl.length∧i = .int .i64 k∧Hid (OwnL 2 w6.heap.size tLev RLv wq u ((Nl.take k).map fun s => (s,lk0 n1 s)))∧Hid (Fut w6 wq)) (fun _ i _ => Nl.length - (intOf i).toNat)
     case atStart => exact ⟨0,Nat.zero_le _,rfl,Hh OwnL.nil,Hh (Fut.refl _)⟩
     case round =>
      obtain ⟨k,hk,rfl,hI,hF6⟩:=hrel;obtain ⟨wq,rfl⟩:∃ x,x=wr:=⟨_,rfl⟩
      by_cases hlt:k<Nl.length
      ·have hltI:(k:Int)<Nl.length:=by omega
       have e0:(0:Int)≤k∧(k:Int)<Nl.length:=by omega
       obtain ⟨b',off,rfl,z0⟩:=nm_at (hns.out.fut (fun _ _ _ _ _ h => h) hF6.out).rep hlt;have hnx:=Hh (show (Nl.take (k+1)).map (fun s => (s,lk0 n1 s))=(Nl.take k).map (fun s => (s,lk0 n1 s))++[(Nl[k],lk0 n1 Nl[k])] by rw [List.take_succ_eq_append_getElem hlt,List.map_append];rfl);have htz:=hGs.out _ (List.getElem_mem hlt);generalize Nl[k]=t at *;have l1:=(look_q (M6.out.fut hF6.out) HNam.out htz).2;have hB9:w6.heap.size≤wq.heap.size:=hF6.out.size;have hl8:((Nl.take k).map (fun s => (s,lk0 n1 s))).length≤100000000:=by rw [List.length_map,List.length_take];have:=HL.out;omega
       have hnq:lk0 n1 t=(lkN n1 t).getD 0:=rfl;rw [← hnq] at l1;clear hnq;generalize lk0 n1 t=pt at *;have hIo:=hI.out;generalize ((Nl.take k).map (fun s => (s,lk0 n1 s)))=L9 at *;obtain ⟨Ao,co,rfl,_,_⟩:=hIo.rep.form;replace hIo:=Hh hIo;go_wp2_with (first|(at_builtin;refine wpList_append_LB (R:=RLv) (B:=w6.heap.size) (M:=1) (xs:=L9) (ys:=[(t,pt)]) (e:=tLev) (by go_simp) _ _ 68 rfl Tryz.underlying68 (.agg #[.string ⟨#[]⟩,.int .i32 0]) 24 infoLv rfl (by decide) RLv.one RLv.keeps rfl rfl (hIo.out.fut RLv.stays (Fut.alloc _ _)) (lvOne _ t pt _) ?l3 ?l4 ?b3 ?k3))
       case l3 => simp [maxLen];omega
       case l4 => simp;omega
       case b3 => simp;omega
       case k3 =>
       intro v' w' o' g' sn';have HO9:=Hh (by rw [← hnx.out] at o';exact o');have HF9:=Hh ((hF6.out.trans (Fut.alloc wq _)).grown g' fun k hk => (hIo.out.block k hk).1);clear o' g' sn';go_wp2;go_roundw
       case rel => exact ⟨k+1,by omega,by go_num,HO9,HF9⟩
       case measure => simp [intOf] <;> omega
      ·obtain rfl:k=Nl.length:=by omega
       rw [List.take_length] at hI;obtain ⟨Ao,co,rfl,hol,_⟩:=hI.out.rep.form;have HFin:=Hh (show OwnL 2 w.heap.size tLev RLv wq (.slice Ao ((Nl.map fun s => (s,lk0 n1 s))).length co) (Nl.map fun s => (s,lk0 n1 s))∧Fut w wq from ⟨hI.out.base F6.out.size,F6.out.trans hF6.out⟩);have hNl2:=hNl'.out;clear hI hF6 hol F6 M6 HNam hGs hns hNl' HL hzW hvl0;generalize ((Nl.map fun s => (s,lk0 n1 s))).length=ln at *;go_wp2
       (try rw [Exit.noGoto_ret])
       (try simp only [Exit.inBlock,Exit.then])
       (try rw [Exit.noGoto_ret])
       simp only [Exit.jump];refine bodyPost_ret (v:=.tuple #[.slice Ao ln co,.int .i64 0,.int .i64 0]) (by simp [results,Tryz.results74,go_sem]) rfl ?_;rw [hNl2];exact ⟨_,rfl,HFin.out.1,HFin.out.2⟩
    ·obtain ⟨m'',rfl,hb9,-⟩:=raise_ok (hx1 rfl);have HJ:∀ a,(∃ (z0 z1 z2 z3 z4 z7 z8 z9 z10 z12 z13 z14 z15 z16 z17 z18 z19 z20 z21 z22 z23 z24 z25 z26 z27 z28 z29 z30 z31 z32 z33 z34 z35 z36 z37 z38 z39 z40 z41 z42 z43 z44 z45 z46 z47 z48 z49 z50 z51 z52 z53 z54 z55 z56 z57 z58 z59 z60 z61 z62 z63 z64 z65 z66 z67 z68 z69 z70 z71 z72 z73 z74 z75 z76 z77 z78 z79 z80 z81 z82 z83 z84 z85 z86 z87 z88 z89 z90 z91 z92 z93 z94 z95 z96 z97 z98 z99 z100 z101 z102 z103 z104 z105:Value),a=(⟨#[z0,z1,z2,z3,z4,.slice Ae es.length ce,.map (some mb),z7,z8,z9,z10,.map (some mbl),z12,z13,z14,z15,z16,z17,z18,z19,z20,z21,z22,z23,z24,z25,z26,z27,z28,z29,z30,z31,z32,z33,z34,z35,z36,z37,z38,z39,z40,z41,z42,z43,z44,z45,z46,z47,z48,z49,z50,z51,z52,z53,z54,z55,z56,z57,z58,z59,z60,z61,z62,z63,z64,z65,z66,z67,z68,z69,z70,z71,z72,z73,z74,z75,z76,z77,z78,z79,z80,z81,z82,z83,z84,z85,z86,z87,z88,z89,z90,z91,z92,z93,z94,z95,z96,z97,z98,z99,z100,z101,z102,z103,z104,z105],[]⟩:Act))→LevJ w es G nf (m''+1) a wr:=fun a ha => ⟨Ae,ce,mb,mbl,n1,wb,F0b,HO3,HG,HB,hF,hMm,Hh ⟨HOk.out.nm,hb9⟩,Hh (hx1 rfl),ha⟩
     have HJ9:=Hh HJ;clear hS hrr hx1 hx2 HR1 HR2 HK HOk hlt hk hel3 HJ hb9;go_wp2_with fail;go_step3;refine ⟨rfl,lev_next (HJ9.out _ ⟨_,_,_,_,_,_,_,_,_,_,_,_,_,_,_,_,_,_,_,_,_,_,_,_,_,_,_,_,_,_,_,_,_,_,_,_,_,_,_,_,_,_,_,_,_,_,_,_,_,_,_,_,_,_,_,_,_,_,_,_,_,_,_,_,_,_,_,_,_,_,_,_,_,_,_,_,_,_,_,_,_,_,_,_,_,_,_,_,_,_,_,_,_,_,_,_,_,_,_,_,_,_,_,rfl⟩)⟩
 case first =>
  intro HP;go_wp2_with fail;refine wp_graph 4 [.d,.r (fun v W => OwnL 4 w.heap.size tEdge REd W v es),.d,.r (fun v W => ∃ mb,v = .map (some mb)∧GrI w.heap.size W mb G)] (by kernel_rfl) (by kernel_rfl) (by kernel_rfl) ?_;simp only [takS,Exs]
  iterate 2 apply Exists.intro
  apply Run.valG (wanted_none rfl _)
  ·intro w1 h1 hk;have q0:=h1.cell c0;have hg:=F0.out.trans ((Fut.drew _).trans h1);have hgs:=hg.size;have hcw:=fun b o => Below.cell (p:=⟨b,o,none⟩) h1;go_simp;rfl
  simp only [actS];apply Run.callR (wanted_none rfl _) (by intro v w w' hf hs;exact hs.fut REd.stays hf) (fun _ _ => by go_simp;exact ⟨rfl,rfl⟩)
  ·intro w1 h1 hk;have q0:=h1.cell c0;have hg:=F0.out.trans ((Fut.drew _).trans h1);have hgs:=hg.size;refine (HE.out _ hg).mono ?_;rintro e w' ⟨v,rfl,ho,hf⟩;exact ⟨_,rfl,hf,ho.base hgs⟩
  intro v1;simp only [actS];apply Run.valG (wanted_none rfl _)
  ·intro w1 h1 hk;have q0:=h1.cell c0;have hg:=F0.out.trans ((Fut.drew _).trans h1);have hgs:=hg.size;have hcw:=fun b o => Below.cell (p:=⟨b,o,none⟩) h1;go_simp;rfl
  simp only [actS];apply Run.callR (wanted_none rfl _) (by intro v w w' hf hs;exact (by obtain ⟨mb,g1,g2⟩:=hs;exact ⟨mb,g1,g2.fut hf⟩)) (fun _ _ => by go_simp;exact ⟨rfl,rfl⟩)
  ·intro w1 h1 hk;have f1:=Facts.get hk 0 rfl (by kernel_rfl);have q0:=h1.cell c0;have hg:=F0.out.trans ((Fut.drew _).trans h1);have hgs:=hg.size;refine (HD.out _ hg).mono ?_;rintro e w' ⟨mb,rfl,ho,hf⟩;exact ⟨_,rfl,hf,mb,rfl,gri_base ho hgs⟩
  intro v3;simp only [actS];apply Run.done;intro w2 h2 hk;obtain ⟨f1,f3,_⟩:=hk;obtain ⟨Ae,ce,rfl,hel1,hel2⟩:=f1.rep.form;obtain ⟨mb,rfl,hG⟩:=f3;have FE:=Hh (F0.out.trans ((Fut.drew _).trans h2));have HOw:=Hh f1;have HP2:=Hh (parts_any N T w2 hG hGl'.out hT'.out);have HG2:=Hh hG;have hel3:es.length≤9223372036854775807:=by unfold maxLen at hel2;omega
  clear h2 f1 hG c0 HE HD hel1 hel2;go_wp2_with fail;refine HP2.out.mono ?_;rintro e w3 ⟨imb,ov,rfl,hm,hms,ho,f3⟩;have HM:=Hh hm;have HMS:=Hh hms;have F3:=Hh (FE.out.trans f3);have HO3:=Hh (HOw.out.fut REd.stays f3);have HG3:=Hh (HG2.out.fut f3);clear hm hms ho f3 HP2 HOw HG2;unfold blameE at hx';go_wp2_with fail;go_loopw [30] (fun i wr => ∃ k:Nat,k≤es.length∧i = .int .i64 k∧Hid (Fut w3 wr)) (fun i _ => es.length - (intOf i).toNat)
  case atStart => exact ⟨0,Nat.zero_le _,rfl,Hh (Fut.refl _)⟩
  case round =>
   obtain ⟨k,hk,rfl,hF⟩:=hrel
   by_cases hlt:k<es.length
   ·have hltI:(k:Int)<es.length:=by omega
    have e0:(0:Int)≤k∧(k:Int)<es.length:=by omega
    obtain ⟨b',off,rfl,hcs⟩:=ed_at' (HO3.out.fut REd.stays hF.out).rep hlt;have hmem:=Hh (List.getElem_mem hlt);have hsz:=HO.out _ hmem.out;obtain ⟨y,hyk⟩:∃ y,es[k]=y:=⟨_,rfl⟩
    rw [hyk] at hcs hmem hsz;clear hyk;obtain ⟨w4,hw4⟩:∃ W,wr.alloc (.cells [.string y.f,.string y.t,.int .i8 y.k,.int .i64 y.r].toArray 129)=W:=⟨_,rfl⟩
    have f1:Fut wr w4:=by rw [← hw4];exact Fut.alloc _ _
    have hrb:w4.heap[wr.heap.size]?=some (.cells #[.string y.f,.string y.t,.int .i8 y.k,.int .i64 y.r] 129 (0,0)):=by rw [← hw4];exact heap_alloc_new wr _
    have q0:=cell_at hrb 0 (.string y.f) rfl;have q1:=cell_at hrb 1 (.string y.t) rfl;have q2:=cell_at hrb 2 (.int .i8 y.k) rfl;have q3:=cell_at hrb 3 (.int .i64 y.r) rfl;have hm4:=HM.out.fut (hF.out.trans f1);have l1:=look0 hm4 HMS.out hsz.1;have l2:=look0 hm4 HMS.out hsz.2
    have hone:∀ v ∈ ([.string y.f,.string y.t,.int .i8 y.k,.int .i64 y.r]:List Value),v.oneCell'=true:=fun v hv => by
     simp only [List.mem_cons,List.not_mem_nil,or_false] at hv;rcases hv with rfl|rfl|rfl|rfl <;> rfl
    have hw4h:=Hh hw4;have hcs9:=Hh hcs;have FN:=Hh (hF.out.trans f1);clear hw4 f1 hrb hcs hsz hm4
    by_cases e1:y.k=1
    ·go_wp2_with (first|(refine wpList_rangeBox [.string y.f,.string y.t,.int .i8 y.k,.int .i64 y.r] rfl rfl rfl rfl rfl rfl rfl hcs9.out Tryz.underlying129 infoEdZ' rfl hone rfl rfl hw4h.out ?_));go_roundw
     case rel => exact ⟨k+1,by omega,by go_num,FN⟩
     case measure => simp [intOf] <;> omega
    ·by_cases e2:lk0 T.inn y.f=lk0 T.inn y.t
     ·exfalso;have h9:=List.find?_eq_none.1 hx'.out y hmem.out;exact h9 (by unfold Ed.strict;rw [decide_eq_false e1,decide_eq_true e2];rfl)
     ·generalize lk0 T.inn y.f=n1 at *;generalize lk0 T.inn y.t=n2 at *;have e3:¬ (n1:Int)=(n2:Int):=by omega
      have e4:((n1:Int) == (n2:Int))=false:=by rw [beq_eq_false_iff_ne];exact e3
      have e5:((n1:Int) != (n2:Int))=true:=by simp [bne,e4]
      have e6:(n1 == n2)=false:=by rw [beq_eq_false_iff_ne];exact e2
      have e7:(n1 != n2)=true:=by simp [bne,e6]
      go_wp2_with (first|(refine wpList_rangeBox [.string y.f,.string y.t,.int .i8 y.k,.int .i64 y.r] rfl rfl rfl rfl rfl rfl rfl hcs9.out Tryz.underlying129 infoEdZ' rfl hone rfl rfl hw4h.out ?_));go_roundw
      case rel => exact ⟨k+1,by omega,by go_num,FN⟩
      case measure => simp [intOf] <;> omega
   ·obtain rfl:k=es.length:=by omega
    have hmm:=@run_makeMap Tryz.prog;go_wp2_with fail;rename_i K hK;go_step3;have f9:=Fut.alloc wr (.map #[] 0);exact hK _ _ (HP.out _ _ ⟨f0,Ae,ce,mb,wr.heap.size,[],wr,Hh (F3.out.trans hF.out),Hh (HO3.out.fut REd.stays hF.out),Hh (HG3.out.fut hF.out),Hh (Nat.le_refl _),Hh f9,Hh (MapE.new (kv:=strV) wr),Hh ⟨fun x hx => (by cases hx),fun x hx => (by cases hx)⟩,hf0',_,_,_,_,_,_,_,_,_,_,_,_,_,_,_,_,_,_,_,_,_,_,_,_,_,_,_,_,_,_,_,_,_,_,_,_,_,_,_,_,_,_,_,_,_,_,_,_,_,_,_,_,_,_,_,_,_,_,_,_,_,_,_,_,_,_,_,_,_,_,_,_,_,_,_,_,_,_,_,_,_,_,_,_,_,_,_,_,_,_,_,_,_,_,_,_,_,_,_,_,_,_,_,rfl⟩)
end Go.Proofs.YtobabnpllokkaaaGreatDoor
