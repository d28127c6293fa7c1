/- Parts. -/
import Derived.Test.YtobabnpllokkaaaGreatDoorP10
import Derived.Test.YtobabnpllokkaaaGreatDoorP09
import Derived.Test.YtobabnpllokkaaaGreatDoorP04
import Derived.Test.YtobabnpllokkaaaGreatDoorP06
import Derived.Test.YtobabnpllokkaaaGreatDoorP02
import Derived.Test.YtobabnpllokkaaaGreatDoorP03
import Derived.Test.YtobabnpllokkaaaGreatDoorP00
set_option linter.unusedSimpArgs false
set_option linter.unusedVariables false
namespace Go.Proofs.YtobabnpllokkaaaGreatDoor
open Go.RowKit Go.WideMaps Go.Maps
theorem LtC.rlt {w:World} {x:Lt} {A:Option Addr} {n c:Nat} {A1:Option Addr} {n1 c1:Nat} {A2:Option Addr} {n2 c2:Nat} (h:LtC w x (.slice A n c) (.slice A1 n1 c1) (.slice A2 n2 c2)):RLt w (x.cs (.slice A n c) (.slice A1 n1 c1) (.slice A2 n2 c2)) x :=
 ⟨_,x.l.cs (.slice A1 n1 c1),x.d.cs (.slice A2 n2 c2),rfl,rfl,rfl,h.kw,h.rw',h.pw,h.args,h.left,h.right⟩
theorem filt_vs:∀ (l:List Lt) (p:Lt→Bool),((l.filter p).flatMap Lt.vs).length≤(l.flatMap Lt.vs).length
 | [],p => by simp
 | x :: r,p => by
  have h1:=filt_vs r p;rw [List.filter_cons]
  split
  ·rw [List.flatMap_cons,List.flatMap_cons,List.length_append,List.length_append];omega
  ·rw [List.flatMap_cons,List.length_append];omega
def isP (x:Lt):Bool:=decide (x.k=1)
set_option maxHeartbeats 4000000 in
set_option maxRecDepth 100000 in
theorem makes_any (x:Ru) (Ah Ab:Option Addr) (ch cb:Nat) (w:World) (hp:x.p.size≤140737488351232) (h1:SlRep 5 2513169434916 RAr w (.slice Ah x.h.length ch) x.h) (h2:SlRep 16 651562446089 RLt w (.slice Ab x.b.length cb) x.b) (hl:x.hs.length+x.bs.length≤400000000) :
    Calls Tryz.prog 197 #[.agg #[.string x.p,.slice Ah x.h.length ch,.slice Ab x.b.length cb]] w fun e w' => e = .returned (.bool x.makes)∧Fut w w':=by
 have HR:=Hh (fun W (hW:Fut w W) => rule_any x Ah Ab ch cb W hp (h1.fut RAr.stays hW) (h2.fut RLt.stays hW) hl)
 have HV:=Hh (fun W (hW:Fut w W) => ruleVars_any ⟨⟨#[]⟩,x.h,[]⟩ Ah none ch 0 W (h1.fut RAr.stays hW) SlRep.nil (by
  have h9:(Ru.hs ⟨⟨#[]⟩,x.h,[]⟩).length=x.hs.length:=rfl;have h8:(Ru.bs ⟨⟨#[]⟩,x.h,[]⟩).length=0:=rfl;omega))
 have hve:(Ru.vars ⟨⟨#[]⟩,x.h,[]⟩)=ddVs x.hs:=by
  show ddVs (x.hs++[])=_;rw [List.append_nil]
 rw [hve] at HV;have hbs:=b_le_bs x.b;have hbl:x.b.length≤400000000:=by unfold Ru.bs at hl;omega
 have hbv:=Hh (show (x.b.flatMap Lt.vs).length≤400000000 by unfold Ru.bs at hl;omega);have HO:=Hh (show ∀ v ∈ ddVs x.hs,v.size≤140737488351232 from fun v hv => heads_ok h1 v (ddVs_mem hv));obtain ⟨b,hb⟩:∃ b,x.makes=b:=⟨_,rfl⟩
 rw [hb];unfold Ru.makes Ru.posB at hb;obtain ⟨hv9,hhv⟩:∃ v,ddVs x.hs=v:=⟨_,rfl⟩
 rw [hhv] at HV HO hb;obtain ⟨er,her⟩:∃ e,x.errno=e:=⟨_,rfl⟩
 rw [her] at HR hb;have H2:=Hh h2;clear h1 h2 hl hbs hve hhv her;obtain ⟨p,xh,xb⟩:=x;dsimp only at *;generalize xh.length=n at *;have hbx:=heap_alloc_new w (.cells #[.string p,.slice Ah n ch,.slice Ab xb.length cb] 82);have f0:=Fut.alloc w (.cells #[.string p,.slice Ah n ch,.slice Ab xb.length cb] 82)
 by_cases he:er=0
 rotate_left
 ·obtain rfl:b=false:=by rw [← hb];simp [he]
  clear hb;go_enter Tryz.func197,Tryz.ntmps197;go_wp2_with fail;refine (HR.out _ f0).mono ?_;rintro e w1 ⟨rfl,f1⟩;go_wp2;go_ret;exact ⟨rfl,f0.trans f1⟩
 subst he;replace hb:=Hh (show (xb.any Lt.works && !allIn (limitsB (xb.filter isP)) hv9)=b by rw [← hb];rfl);go_enter Tryz.func197,Tryz.ntmps197;go_wp2_with fail;refine (HR.out _ f0).mono ?_;rintro e w1 ⟨rfl,f1⟩;have F1:=Hh (f0.trans f1);have c1:=cell_at (f1.block hbx) 1 (.slice Ah n ch) rfl;have c2:=cell_at (f1.block hbx) 2 (.slice Ab xb.length cb) rfl;have C1:=Hh c1;clear f0 f1 hbx HR;go_wp2_with fail;clear c1 c2;go_loopw [3,4,13] (fun u ws i wr => ∃ k:Nat,k≤xb.length∧i = .int .i64 k∧ws = .bool ((xb.take k).any Lt.works)∧Hid (OwnL 16 w1.heap.size 120 (RL0 w1) wr u ((xb.take k).filter isP))∧Hid (Fut w1 wr)) (fun _ _ i _ => xb.length - (intOf i).toNat)
 case atStart => exact ⟨0,Nat.zero_le _,rfl,rfl,Hh OwnL.nil,Hh (Fut.refl _)⟩
 case round =>
  obtain ⟨k,hk,rfl,rfl,hI,hF⟩:=hrel
  by_cases hlt:k<xb.length
  ·have hltI:(k:Int)<xb.length:=by omega
   have e0:(0:Int)≤k∧(k:Int)<xb.length:=by omega
   obtain ⟨b',off,A',c2,Al,l',cl,Ad,d',cd,rfl,hcs,_,_,g3⟩:=lt_at (H2.out.fut RLt.stays F1.out) hlt
   have hfl:=Hh (show (xb.take (k+1)).filter isP=(xb.take k).filter isP++(if isP xb[k]=true then [xb[k]] else []) by
    rw [List.take_succ_eq_append_getElem hlt,List.filter_append];cases h:isP xb[k] <;> simp [h])
   have han:(xb.take (k+1)).any Lt.works=((xb.take k).any Lt.works || xb[k].works):=by
    rw [List.take_succ_eq_append_getElem hlt,List.any_append];simp
   have hfn:=List.length_filter_le isP (xb.take k);rw [List.length_take] at hfn;generalize xb[k]=z at *;have hrl:=Hh g3.rlt;have hcs9:=Hh (fun j v hj => hF.out.cell (hcs j v hj));obtain ⟨G,hG⟩:∃ G,(xb.take k).filter isP=G:=⟨_,rfl⟩
   obtain ⟨d0,hd0⟩:∃ d,(xb.take k).any Lt.works=d:=⟨_,rfl⟩
   rw [hG] at hfl hI hfn;rw [hd0] at han ⊢;clear hG hd0 hcs g3;obtain ⟨wb,hwb⟩:∃ W,W=wr.alloc (.cells (z.cs (.slice A' z.a.length c2) (.slice Al l' cl) (.slice Ad d' cd)).toArray 120):=⟨_,rfl⟩
   have f0:Fut wr wb:=by rw [hwb];exact Fut.alloc _ _
   have hbx:wb.heap[wr.heap.size]?=some (.cells (z.cs (.slice A' z.a.length c2) (.slice Al l' cl) (.slice Ad d' cd)).toArray 120 (0,0)):=by rw [hwb];exact heap_alloc_new _ _
   replace hwb:=Hh hwb;have hone:=Lt.cs_one z A' z.a.length c2 Al l' cl Ad d' cd;have k0:=cell_at hbx 0 (.int .i8 z.k) rfl;have k4:=cell_at hbx 4 (.int .i8 z.l.op) rfl;have k10:=cell_at hbx 10 (.int .i8 z.d.op) rfl
   have hrange:=Hh (show ∀ j v,(z.cs (.slice A' z.a.length c2) (.slice Al l' cl) (.slice Ad d' cd))[j]?=some v→wb.cell? ⟨wr.heap.size,0+j,none⟩=some v from fun j v hj => by
    rw [Nat.zero_add];exact cell_at hbx j v (by simpa using hj))
   have hIb:=Hh (hI.out.fut RL0.stays f0);have hFb:=Hh (hF.out.trans f0);have hBz:=hFb.out.size;clear f0 hbx hI hF
   by_cases ek:z.k=1
   ·have hw0:z.works=false:=by unfold Lt.works;rw [ek];rfl
    have hp0:isP z=true:=by unfold isP;rw [ek];rfl
    rw [if_pos hp0] at hfl;rw [hw0,Bool.or_false] at han;obtain ⟨Au,cu,rfl,_,_⟩:=hIb.out.rep.form;clear hw0 hp0;replace han:=Hh han;go_wp2_with (first|(refine wpList_rangeBox (z.cs (.slice A' z.a.length c2) (.slice Al l' cl) (.slice Ad d' cd)) rfl rfl rfl rfl rfl rfl rfl hcs9.out Tryz.underlying120 infoLt rfl hone rfl rfl hwb.out.symm ?_)|(refine wpList_load_mid rfl _ _ rfl _ _ rfl (z.cs (.slice A' z.a.length c2) (.slice Al l' cl) (.slice Ad d' cd)) _ hrange.out Tryz.underlying120 rfl infoLtS ?_)|(refine wpList_slice1 (cs:=z.cs (.slice A' z.a.length c2) (.slice Al l' cl) (.slice Ad d' cd)) rfl _ rfl rfl Tryz.underlying80 infoLtF rfl rfl (by decide) (by decide) ?_)|(at_builtin;refine wpList_append_LB (R:=RL0 w1) (B:=w1.heap.size) (M:=1) (xs:=G) (ys:=[z]) (e:=120) (by go_simp) _ _ 80 rfl Tryz.underlying80 (.agg #[.int .i8 0,.string ⟨#[]⟩,.slice none 0 0,.int .i8 0,.int .i8 0,.string ⟨#[]⟩,.int .i8 0,.int .i64 0,.string ⟨#[]⟩,.slice none 0 0,.int .i8 0,.string ⟨#[]⟩,.int .i8 0,.int .i64 0,.string ⟨#[]⟩,.slice none 0 0]) 216 infoLtF rfl (by decide) RL0.one RL0.keeps rfl rfl (hIb.out.fut RL0.stays (Fut.alloc _ _)) (slOne _ (z.cs (.slice A' z.a.length c2) (.slice Al l' cl) (.slice Ad d' cd)) z _ rfl hrl.out) ?l3 ?l4 ?b3 ?k3))
    case l3 => simp [maxLen];omega
    case l4 => simp;omega
    case b3 => simp;omega
    case k3 =>
    intro v' w' o' g' sn';have HI:=Hh (show OwnL 16 w1.heap.size 120 (RL0 w1) w' v' ((xb.take (k+1)).filter isP) by rw [hfl.out];exact o');have HF:=Hh ((hFb.out.trans (Fut.alloc _ _)).grown g' (fun k hk => (hIb.out.block k hk).1));clear o' g' sn';go_wp2;go_roundw
    case rel => exact ⟨k+1,by omega,by go_num,by rw [han.out],HI,HF⟩
    case measure => simp [intOf] <;> omega
   ·have hp0:¬ isP z=true:=by unfold isP;simpa using ek
    rw [if_neg hp0,List.append_nil] at hfl;have HI:=Hh (show OwnL 16 w1.heap.size 120 (RL0 w1) wb u3 ((xb.take (k+1)).filter isP) by rw [hfl.out];exact hIb.out);clear hp0
    by_cases e3:z.k=3
    ·cases d0
     ·by_cases el:z.l.op=0
      ·by_cases ed:z.d.op=0
       ·have hw0:z.works=false:=by unfold Lt.works;rw [e3,el,ed];rfl
        rw [hw0] at han;replace han:=Hh (show (xb.take (k+1)).any Lt.works=false from han);clear hw0;go_wp2_with (first|(refine wpList_rangeBox (z.cs (.slice A' z.a.length c2) (.slice Al l' cl) (.slice Ad d' cd)) rfl rfl rfl rfl rfl rfl rfl hcs9.out Tryz.underlying120 infoLt rfl hone rfl rfl hwb.out.symm ?_));go_roundw
        case rel => exact ⟨k+1,by omega,by go_num,by rw [han.out],HI,hFb⟩
        case measure => simp [intOf] <;> omega
       ·have hw0:z.works=true:=by unfold Lt.works;rw [e3,el,decide_eq_false ed];rfl
        rw [hw0] at han;replace han:=Hh (show (xb.take (k+1)).any Lt.works=true from han);clear hw0;go_wp2_with (first|(refine wpList_rangeBox (z.cs (.slice A' z.a.length c2) (.slice Al l' cl) (.slice Ad d' cd)) rfl rfl rfl rfl rfl rfl rfl hcs9.out Tryz.underlying120 infoLt rfl hone rfl rfl hwb.out.symm ?_));go_roundw
        case rel => exact ⟨k+1,by omega,by go_num,by rw [han.out];simp [ed],HI,hFb⟩
        case measure => simp [intOf] <;> omega
      ·have hw0:z.works=true:=by unfold Lt.works;rw [e3,decide_eq_false el];rfl
       rw [hw0] at han;replace han:=Hh (show (xb.take (k+1)).any Lt.works=true from han);clear hw0;go_wp2_with (first|(refine wpList_rangeBox (z.cs (.slice A' z.a.length c2) (.slice Al l' cl) (.slice Ad d' cd)) rfl rfl rfl rfl rfl rfl rfl hcs9.out Tryz.underlying120 infoLt rfl hone rfl rfl hwb.out.symm ?_));go_roundw
       case rel => exact ⟨k+1,by omega,by go_num,by rw [han.out],HI,hFb⟩
       case measure => simp [intOf] <;> omega
     ·replace han:=Hh (show (xb.take (k+1)).any Lt.works=true from han.trans (Bool.true_or _));go_wp2_with (first|(refine wpList_rangeBox (z.cs (.slice A' z.a.length c2) (.slice Al l' cl) (.slice Ad d' cd)) rfl rfl rfl rfl rfl rfl rfl hcs9.out Tryz.underlying120 infoLt rfl hone rfl rfl hwb.out.symm ?_));go_roundw
      case rel => exact ⟨k+1,by omega,by go_num,by rw [han.out],HI,hFb⟩
      case measure => simp [intOf] <;> omega
    ·have hw0:z.works=false:=by unfold Lt.works;rw [decide_eq_false e3];rfl
     rw [hw0,Bool.or_false] at han;replace han:=Hh han;clear hw0;go_wp2_with (first|(refine wpList_rangeBox (z.cs (.slice A' z.a.length c2) (.slice Al l' cl) (.slice Ad d' cd)) rfl rfl rfl rfl rfl rfl rfl hcs9.out Tryz.underlying120 infoLt rfl hone rfl rfl hwb.out.symm ?_));go_roundw
     case rel => exact ⟨k+1,by omega,by go_num,by rw [han.out],HI,hFb⟩
     case measure => simp [intOf] <;> omega
  ·obtain rfl:k=xb.length:=by omega
   rw [List.take_length] at hI ⊢;have hfl:=Hh (List.length_filter_le isP xb);have hfv:=Hh (filt_vs xb isP);obtain ⟨G,hG⟩:∃ G,xb.filter isP=G:=⟨_,rfl⟩
   obtain ⟨d0,hd0⟩:∃ d,xb.any Lt.works=d:=⟨_,rfl⟩
   rw [hG] at hI hb hfl hfv;rw [hd0] at hb ⊢;clear hG hd0;have k1:=hF.out.cell C1.out;have F2:=Hh (F1.out.trans hF.out);obtain ⟨Au,cu,rfl,_,_⟩:=hI.out.rep.form;cases d0
   ·obtain rfl:b=false:=hb.out.symm.trans (Bool.false_and _);go_wp2_with fail;refine wp_graph 12 [.d,.d,.d,.d,.d,.d,.d,.d,.d,.d,.d,.d] (by kernel_rfl) (by kernel_rfl) (by kernel_rfl) ?_;simp only [takS,Exs]
    iterate 12 apply Exists.intro
    iterate 2
     apply Run.valG (wanted_none rfl _)
     ·intro w1 h1 hk;go_simp;rfl
     simp only [actS]
    iterate 8
     apply Run.skip (by first|(go_simp;done)|(go_simp;exact fun h => nomatch h));simp only [actS]
    iterate 2
     apply Run.valG (wanted_none rfl _)
     ·intro w1 h1 hk;go_simp;rfl
     simp only [actS]
    apply Run.done;intro w2 h2 hk;clear hk;have F3:=Hh (F2.out.trans ((Fut.drew _).trans h2));clear h2;go_wp2;go_ret;exact ⟨rfl,F3.out⟩
   ·have HL:=Hh (fun W (hW:Fut wr W) => limits_any Au cu G W (((hI.out.fut RL0.stays hW).rep.imp fun cs x hx => RLt.stays _ _ _ _ (hF.out.trans hW) hx)) (by unfold maxLen;omega) (by have:=hfl.out;omega) (by have:=hfv.out;have:=hbv.out;omega));obtain ⟨a,ha⟩:∃ a,allIn (limitsB G) hv9=a:=⟨_,rfl⟩
    rw [ha] at hb;obtain rfl:b=!a:=hb.out.symm.trans (Bool.true_and _);obtain ⟨Lx,hLx⟩:∃ v,limitsB G=v:=⟨_,rfl⟩
    rw [hLx] at HL ha;go_wp2_with fail;refine wp_graph 12 [.d,.d,.d,.r (fun v W => ∃ fb mb lv,v = .pointer (some ⟨fb,0,none⟩)∧FdSt wr.heap.size W fb mb Lx lv),.d,.d,.d,.r (fun v W => Nms wr.heap.size W v hv9),.d,.d,.d,.d] (by kernel_rfl) (by kernel_rfl) (by kernel_rfl) ?_;simp only [takS,Exs]
    iterate 10 apply Exists.intro
    iterate 2
     apply Run.valG (wanted_none rfl _)
     ·intro w1 h1 hk;go_simp;rfl
     simp only [actS]
    apply Run.valG (by go_simp)
    ·intro w1 h1 hk;go_simp;rfl
    simp only [actS];apply Run.callR (by go_simp) (by intro v w w' hf hs;exact (by obtain ⟨fb,mb,lv,g1,g2⟩:=hs;exact ⟨fb,mb,lv,g1,g2.fut hf⟩)) (fun _ _ => by go_simp;exact ⟨rfl,rfl⟩)
    ·intro w1 h1 hk;have q1:=h1.cell k1;have hg:=(Fut.drew _).trans h1;have hgw:=F2.out.trans hg;refine (HL.out _ hg).mono ?_;rintro e w' ⟨fb,mb,lv,rfl,g1,hf⟩;exact ⟨_,rfl,hf,fb,mb,lv,rfl,⟨g1.cell,g1.list.base hg.size,g1.map,g1.sizes,Nat.le_trans hg.size g1.low.1,Nat.le_trans hg.size g1.low.2⟩⟩
    intro v3;simp only [actS];apply Run.valG (by go_simp)
    ·intro w1 h1 hk;go_simp;rfl
    simp only [actS]
    iterate 2
     apply Run.valG (by go_simp)
     ·intro w1 h1 hk;have q1:=h1.cell k1;have hg:=(Fut.drew _).trans h1;have hgw:=F2.out.trans hg;have hcw:=fun b o => Below.cell (p:=⟨b,o,none⟩) h1;go_simp;rfl
     simp only [actS]
    apply Run.callR (by go_simp) (by intro v w w' hf hs;exact hs.fut RNm.stays hf) (fun _ _ => by go_simp;exact ⟨rfl,rfl⟩)
    ·intro w1 h1 hk;have f3:=Facts.get hk 0 rfl (by kernel_rfl);have q1:=h1.cell k1;have hg:=(Fut.drew _).trans h1;have hgw:=F2.out.trans hg;refine (HV.out _ hgw).mono ?_;rintro e w' ⟨v,rfl,g1,hf⟩;exact ⟨_,rfl,hf,g1.base hg.size⟩
    intro v7;simp only [actS];apply Run.call (by go_simp) (fun _ _ => by go_simp;exact ⟨rfl,rfl⟩)
    ·intro w1 h1 hk;have f3:=Facts.get hk 0 rfl (by kernel_rfl);have f7:=Facts.get hk 1 rfl (by kernel_rfl);have q1:=h1.cell k1;have hg:=(Fut.drew _).trans h1;have hgw:=F2.out.trans hg;obtain ⟨fb,mb,lv,rfl,g1⟩:=f3;obtain ⟨A,c,rfl,_,_⟩:=f7.rep.form;refine (allF_any A c hv9 _ g1 f7.rep (by unfold maxLen;omega) HO.out).mono ?_;rintro e w' ⟨rfl,rfl⟩;rw [ha];exact ⟨rfl,Fut.refl _⟩
    simp only [actS];apply Run.valG (by go_simp)
    ·intro w1 h1 hk;have q1:=h1.cell k1;have hg:=(Fut.drew _).trans h1;have hgw:=F2.out.trans hg;have hcw:=fun b o => Below.cell (p:=⟨b,o,none⟩) h1;go_simp;rfl
    simp only [actS]
    iterate 2
     apply Run.valG (wanted_none rfl _)
     ·intro w1 h1 hk;go_simp;rfl
     simp only [actS]
    apply Run.done;intro w2 h2 hk;obtain ⟨f3,f7,_⟩:=hk;have F3:=Hh (F2.out.trans ((Fut.drew _).trans h2));clear h2 f3 f7;go_wp2;go_ret;exact ⟨rfl,F3.out⟩
end Go.Proofs.YtobabnpllokkaaaGreatDoor
namespace Go.Proofs.YtobabnpllokkaaaGreatDoor
open Go.RowKit Go.WideMaps
theorem set_under (w:World) (o p:Array Value) (t u:TypeId) (v:Value):((w.alloc (.cells o t)).alloc (.cells p u)).setCell ⟨w.heap.size,0,none⟩ v=(w.alloc (.cells (o.setIfInBounds 0 v) t)).alloc (.cells p u):=by
 unfold World.setCell World.alloc;congr 1;refine Array.ext_getElem? fun j => ?_;rw [Array.getElem?_modify]
 by_cases hj:j=w.heap.size
 ·subst hj;simp [Array.getElem?_push]
 ·rw [if_neg (Ne.symm hj)];simp [Array.getElem?_push,hj]
theorem wpList_rangeBox2 {P:Program} {ops:Array Oper} {rest:List Oper} {o2 o3 o4 o5 o6:Oper} {a:Act} {Q:Exit→Act→World→Prop} {w w':World} {T tI:TypeId} {x x5 y5 x6 y6:Operand} {b o:Nat} (cs:List Value) (vi:Value) {z zi:Value} {fs:Array Field}
    (g2:o2.guard=none) (g3:o3.guard=none) (g4:o4.guard=none) (g5:o5.guard=none) (g6:o6.guard=none) (h2:o2.op = .load T x) (h3:o3.op = .alloc tI) (h4:o4.op = .alloc T) (h5:o5.op = .store tI x5 y5) (h6:o6.op = .store T x6 y6) (hx:a.eval x = .pointer (some ⟨b,o,none⟩)) (hc:∀ j v,cs[j]?=some v→w.cell? ⟨b,o+j,none⟩=some v)
    (hu:P.underlying T=some (.struct fs)) (hi:(P.info? T).map (fun i => (i.zero,i.size))=some (some z,cs.length)) (hz:z.cells.size=cs.length) (h1:∀ v ∈ cs,v.oneCell'=true)
    (hii:(P.info? tI).map (fun i => (i.zero,i.size))=some (some zi,1)) (hzi:zi.cells.size=1) (hvi:vi.oneCell'=true)
    (hy5:(((a.put o2.dst (.agg cs.toArray)).put o3.dst (.pointer (some ⟨w.heap.size,0,none⟩))).put o4.dst (.pointer (some ⟨w.heap.size+1,0,none⟩))).eval y5=vi)
    (hx5:(((a.put o2.dst (.agg cs.toArray)).put o3.dst (.pointer (some ⟨w.heap.size,0,none⟩))).put o4.dst (.pointer (some ⟨w.heap.size+1,0,none⟩))).eval x5 = .pointer (some ⟨w.heap.size,0,none⟩))
    (hx6:((((a.put o2.dst (.agg cs.toArray)).put o3.dst (.pointer (some ⟨w.heap.size,0,none⟩))).put o4.dst (.pointer (some ⟨w.heap.size+1,0,none⟩))).put o5.dst undef).eval x6 = .pointer (some ⟨w.heap.size+1,0,none⟩))
    (hy6:((((a.put o2.dst (.agg cs.toArray)).put o3.dst (.pointer (some ⟨w.heap.size,0,none⟩))).put o4.dst (.pointer (some ⟨w.heap.size+1,0,none⟩))).put o5.dst undef).eval y6 = .agg cs.toArray)
    (hw:(w.alloc (.cells #[vi] tI)).alloc (.cells cs.toArray T)=w')
    (h:wpList P ops Q rest (((((a.put o2.dst (.agg cs.toArray)).put o3.dst (.pointer (some ⟨w.heap.size,0,none⟩))).put o4.dst (.pointer (some ⟨w.heap.size+1,0,none⟩))).put o5.dst undef).put o6.dst undef) w'):wpList P ops Q (o2 :: o3 :: o4 :: o5 :: o6 :: rest) a w:=by
 subst hw
 have hs:(P.info? T).map (·.size)=some cs.length:=by
  cases hq:P.info? T with
  | none => simp [hq] at hi
  | some i =>
   rw [hq] at hi;simp at hi;simp [hi.2]
 have hsi:(P.info? tI).map (·.size)=some 1:=by
  cases hq:P.info? tI with
  | none => simp [hq] at hii
  | some i =>
   rw [hq] at hii;simp at hii;simp [hii.2]
 refine wpList_load_mid g2 T x h2 b o hx cs _ hc hu rfl hs ?_;refine wpList_of_run (wanted_none g3 _) (v:=.pointer (some ⟨w.heap.size,0,none⟩)) (w':=w.alloc (.cells zi.cells tI)) ?_ ?_
 ·unfold execOp;simp only [h3,Sem.run_bind,Sem.run_pure,Result.andThen_ok,run_alloc_of hii]
 have hsz:(w.alloc (.cells zi.cells tI)).heap.size=w.heap.size+1:=by simp
 refine wpList_of_run (wanted_none g4 _) (v:=.pointer (some ⟨w.heap.size+1,0,none⟩)) (w':=(w.alloc (.cells zi.cells tI)).alloc (.cells z.cells T)) ?_ ?_
 ·unfold execOp;simp only [h4,Sem.run_bind,Sem.run_pure,Result.andThen_ok,run_alloc_of hi,hsz]
 obtain ⟨c0,hc0⟩:∃ c0,zi.cells=#[c0]:=by
  have:=hzi;cases hq:zi.cells with
  | mk l =>
   rw [hq] at this
   match l,this with
   | [c0],_ => exact ⟨c0,rfl⟩
 have hb:=(Fut.alloc (w.alloc (.cells zi.cells tI)) (.cells z.cells T)).block (heap_alloc_new w (.cells zi.cells tI));rw [hc0] at hb;refine wpList_store_1 (wanted_none g5 _) x5 y5 h5 hx5 hy5 hsi hvi (u:=c0) (cell_at (by rw [hc0];exact hb) 0 c0 rfl) (free_at (by rw [hc0];exact hb) 0) (set_under w zi.cells z.cells tI T vi) ?_;have e1:zi.cells.setIfInBounds 0 vi=#[vi]:=by rw [hc0];rfl
 rw [e1];refine wpList_of_skip (wanted_none g6 _) (w':=(w.alloc (.cells #[vi] tI)).alloc (.cells cs.toArray T)) ?_ h;have hsz2:(w.alloc (.cells #[vi] tI)).heap.size=w.heap.size+1:=by simp
 unfold execOp;have h9:=box_store (P:=P) (w.alloc (.cells #[vi] tI)) cs z.cells hs hz h1;rw [hsz2] at h9;simp only [h6,hx6,hy6,Sem.run_bind,Sem.run_pure,Result.andThen_ok,h9]
def Ru.kind (r:Ru):Int:=if r.agg=true then 3 else if r.makes=true then 4 else 1
def Ru.edge (r:Ru) (i:Int) (l:Lt):Ed:=⟨r.p,l.p,if l.k=2 then 2 else r.kind,i⟩
def Ru.edges (r:Ru) (i:Int):List Ed:=(r.b.filter Lt.isA).map (r.edge i)
def edgesP (rs:List Ru):List Ed:=rs.zipIdx.flatMap fun x => x.1.edges (x.2:Nat)
theorem edges_take {rs:List Ru} {k:Nat} (hk:k<rs.length):edgesP (rs.take (k+1))=edgesP (rs.take k)++rs[k].edges (k:Nat):=by
 unfold edgesP;rw [List.take_succ_eq_append_getElem hk,List.zipIdx_append,List.flatMap_append];simp [List.length_take,Nat.min_eq_left (Nat.le_of_lt hk)]
def Small (rs:List Ru):Prop:=(rs.map Ru.parts).sum≤10000000
theorem vs_parts (x:Lt):x.parts=1+x.vs.length:=by
 unfold Lt.parts Lt.vs;rw [List.length_append,List.length_append,List.length_map,Ex.vs_len,Ex.vs_len];omega
theorem bs_parts:∀ l:List Lt,(l.flatMap Lt.vs).length+l.length=(l.map Lt.parts).sum
 | [] => rfl
 | x :: r => by
  rw [List.flatMap_cons,List.length_append,List.map_cons,List.sum_cons,← bs_parts r,vs_parts,List.length_cons];omega
theorem Ru.parts_eq (r:Ru):r.parts=1+r.hs.length+r.bs.length+r.b.length:=by
 unfold Ru.parts Ru.hs Ru.bs;rw [← bs_parts,List.length_map];omega
theorem sum_mem {α:Type} (f:α→Nat):∀ {l:List α} {x:α},x ∈ l→f x≤(l.map f).sum
 | y :: r,x,h => by
  rw [List.map_cons,List.sum_cons];rcases List.mem_cons.1 h with rfl|h
  ·omega
  ·have:=sum_mem f h;omega
theorem Small.mem {rs:List Ru} (h:Small rs) {r:Ru} (hr:r ∈ rs):r.hs.length+r.bs.length≤10000000∧r.b.length≤10000000:=by
 have h1:=sum_mem Ru.parts hr;unfold Small at h;rw [Ru.parts_eq] at h1;omega
theorem edges_len:∀ (rs:List Ru) (n:Nat),((rs.zipIdx n).flatMap fun x => x.1.edges (x.2:Nat)).length≤(rs.map Ru.parts).sum
 | [],n => by simp
 | r :: rs,n => by
  rw [List.zipIdx_cons,List.flatMap_cons,List.length_append,List.map_cons,List.sum_cons];have h1:=edges_len rs (n+1)
  have h2:(r.edges (n:Nat)).length≤r.parts:=by
   unfold Ru.edges;rw [List.length_map,Ru.parts_eq];have:=List.length_filter_le Lt.isA r.b;omega
  simp only;omega
theorem Small.edges {rs:List Ru} (h:Small rs):(edgesP rs).length≤10000000:=by
 have:=edges_len rs 0;unfold Small at h;unfold edgesP;omega
theorem filt_take {l:List Lt} {k:Nat} (hk:k<l.length) (g:Lt→Ed):((l.take (k+1)).filter Lt.isA).map g=((l.take k).filter Lt.isA).map g++(if l[k].isA=true then [g l[k]] else []):=by
 rw [List.take_succ_eq_append_getElem hk,List.filter_append,List.map_append];cases h:l[k].isA <;> simp [h]
theorem call_edge1:∀ args W,(callFunc 245 args).run Tryz.prog W = .ok (.enter 245 args) W:=fun args W => by kernel_rfl
theorem edges_of {wC:World} {rb kb ib ob:Nat} (r:Ru) (i:Int) (Ah Ab:Option Addr) (ch cb:Nat) (es:List Ed) (w:World) (hf:Fut wC w) (h2:SlRep 16 651562446089 RLt wC (.slice Ab r.b.length cb) r.b) (hes:es.length+r.b.length≤100000000)
    (h0:∃ lv,EdSt wC.heap.size w rb kb ib ob r.p (.slice Ah r.h.length ch) (.slice Ab r.b.length cb) r.kind i es lv) :
    Calls Tryz.prog 94 #[.slice Ab r.b.length cb,.func (.func 245) #[] #[.pointer (some ⟨rb,0,none⟩),.pointer (some ⟨kb,0,none⟩),.pointer (some ⟨ib,0,none⟩),.pointer (some ⟨ob,0,none⟩)]] w fun e w' => (∃ u,e = .returned u)∧Fut wC w'∧∃ lv,EdSt wC.heap.size w' rb kb ib ob r.p (.slice Ah r.h.length ch) (.slice Ab r.b.length cb) r.kind i (es++r.edges i) lv:=by
 refine (atoms_any (fun k W => Fut wC W∧∃ lv,EdSt wC.heap.size W rb kb ib ob r.p (.slice Ah r.h.length ch) (.slice Ab r.b.length cb) r.kind i (es++((r.b.take k).filter Lt.isA).map (r.edge i)) lv) Ab cb r.b w _ _ (by omega) call_edge1 (fun k W h => h2.fut RLt.stays h.1) (fun k W W' h hw => ⟨h.1.trans hw,by obtain ⟨lv,h9⟩:=h.2;exact ⟨lv,h9.fut hw⟩⟩) (fun k hk W h ha => ?_) (fun k hk W A' c' Al l cl Ad d cd h ha hc => ?_) ⟨hf,by simpa using h0⟩).mono ?_
 ·refine ⟨h.1,?_⟩;obtain ⟨lv,h9⟩:=h.2;refine ⟨lv,?_⟩;rw [filt_take hk,if_neg (by rw [ha];decide),List.append_nil];exact h9
 ·obtain ⟨hF,lv,h9⟩:=h;have hfl:=List.length_filter_le Lt.isA (r.b.take k);rw [List.length_take] at hfl;refine (edge1_any r.b[k] A' c' Al l cl Ad d cd W h9 hF.size (by rw [List.length_append,List.length_map];omega)).mono ?_;rintro e W' ⟨hu,⟨lv',h8⟩,hO⟩;refine ⟨hu,((Only.fut hF).trans hO).toFut (fun k hk => hk),lv',?_⟩;rw [filt_take hk,if_pos ha,← List.append_assoc];exact h8
 ·rintro e w' ⟨hu,hF,h9⟩;refine ⟨hu,hF,?_⟩;rw [List.take_length] at h9;exact h9
theorem infoRu:(Tryz.prog.info? 82).map (fun i => (i.zero,i.size))=some (some (.agg #[.string ⟨#[]⟩,.slice none 0 0,.slice none 0 0]),3):=by kernel_rfl
theorem infoIn2:(Tryz.prog.info? 3).map (fun i => (i.zero,i.size))=some (some (.int .i64 0),1):=by kernel_rfl
theorem EdSt.kind {B rb kb ib ob:Nat} {W:World} {p:ByteArray} {hv bv lv:Value} {kd i v:Int} {es:List Ed} (h:EdSt B W rb kb ib ob p hv bv kd i es lv):EdSt B (W.setCell ⟨kb,0,none⟩ (.int .i8 v)) rb kb ib ob p hv bv v i es lv:=by
 have O2:Only (fun k => k=kb) W (W.setCell ⟨kb,0,none⟩ (.int .i8 v)):=Only.set _ _ rfl;refine ⟨O2.keeps h.r (other_block h.r h.k (by decide)),set_block h.k,O2.keeps h.i (other_block h.i h.k (by decide)),O2.keeps h.o (other_block h.o h.k (by decide)),h.list.only (fun _ _ h => h) O2 fun k hk e => ?_,h.low⟩;obtain ⟨arr,h9⟩:=h.list.typed k hk;exact other_block h9 h.k (by decide) e
theorem three_cells {w:World} {b o:Nat} {x0 x1 x2:Value} (h0:w.cell? ⟨b,o,none⟩=some x0) (h1:w.cell? ⟨b,o+1,none⟩=some x1) (h2:w.cell? ⟨b,o+2,none⟩=some x2):∀ j v,[x0,x1,x2][j]?=some v→w.cell? ⟨b,o+j,none⟩=some v:=fun j v hj => by
 match j,hj with
 | 0,hj => injection hj with hj;subst hj;exact h0
 | 1,hj => injection hj with hj;subst hj;exact h1
 | 2,hj => injection hj with hj;subst hj;exact h2
 | j+3,hj => simp at hj
set_option maxHeartbeats 4000000 in
set_option maxRecDepth 100000 in
theorem edges_any {M:Nat} (A:Option Addr) (c:Nat) (rs:List Ru) (w:World) (h:SlRep 3 M RRu w (.slice A rs.length c) rs) (hM:M≤9223372036854775807) (hS:Small rs) :
    Calls Tryz.prog 195 #[.agg #[.slice A rs.length c]] w fun e w' => ∃ v,e = .returned v∧OwnL 4 w.heap.size tEdge REd w' v (edgesP rs)∧Fut w w':=by
 obtain ⟨_,_,hv,hl1,hl2⟩:=h.form;have hxl:rs.length≤9223372036854775807:=by omega
 have H:=Hh h;have HS:=Hh hS;clear h hS hl1 hl2 hv;have hbx:=heap_alloc_new w (.cells #[.slice A rs.length c] 28);have c0:=cell_at hbx 0 (.slice A rs.length c) rfl;go_enter Tryz.func195,Tryz.ntmps195;go_wp2_with fail;clear c0 hbx;have hob:=heap_alloc_new (w.alloc (.cells #[.slice A rs.length c] 28)) (.cells #[.slice none 0 0] tEdges);have hsz0:(w.alloc (.cells #[.slice A rs.length c] 28)).heap.size=w.heap.size+1:=by simp
 rw [hsz0] at hob;have HI:=Hh (show ∃ lv,((w.alloc (.cells #[.slice A rs.length c] 28)).alloc (.cells #[.slice none 0 0] tEdges)).heap[w.heap.size+1]?=some (.cells #[lv] tEdges (0,0))∧OwnL 4 w.heap.size tEdge REd ((w.alloc (.cells #[.slice A rs.length c] 28)).alloc (.cells #[.slice none 0 0] tEdges)) lv (edgesP (rs.take 0)) from ⟨_,hob,OwnL.nil⟩);have HF0:=Hh ((Fut.alloc w (.cells #[.slice A rs.length c] 28)).trans (Fut.alloc _ (.cells #[.slice none 0 0] tEdges)));clear hob hsz0;go_loopw [10] (fun i wr => ∃ k:Nat,k≤rs.length∧i = .int .i64 k∧Hid (Fut w wr)∧Hid (∃ lv,wr.heap[w.heap.size+1]?=some (.cells #[lv] tEdges (0,0))∧OwnL 4 w.heap.size tEdge REd wr lv (edgesP (rs.take k)))) (fun i _ => rs.length - (intOf i).toNat)
 case atStart => exact ⟨0,Nat.zero_le _,rfl,HF0,HI⟩
 case round =>
  obtain ⟨k,hk,rfl,hF,hI⟩:=hrel
  by_cases hlt:k<rs.length
  ·have hltI:(k:Int)<rs.length:=by omega
   have e0:(0:Int)≤k∧(k:Int)<rs.length:=by omega
   obtain ⟨b',off,Ah,ch,Ab,cb,rfl,u0,u1,u2,hp,hh1,hh2⟩:=ru_at H.out hlt;have hnx:=Hh (edges_take hlt);have hmem:=HS.out.mem (List.getElem_mem hlt)
   have hlen:(edgesP (rs.take k)).length≤10000000:=by
    have h1:=HS.out.edges
    have h2:edgesP rs=edgesP (rs.take k)++((rs.drop k).zipIdx k).flatMap fun x => x.1.edges (x.2:Nat):=by
     unfold edgesP
     conv => lhs;rw [← List.take_append_drop k rs]
     rw [List.zipIdx_append,List.flatMap_append,List.length_take,Nat.min_eq_left hk,Nat.zero_add]
    rw [h2,List.length_append] at h1;omega
   obtain ⟨r,hrk⟩:∃ r,rs[k]=r:=⟨_,rfl⟩
   rw [hrk] at u0 u1 u2 hp hh1 hh2 hnx hmem;have hbd:=Hh (And.intro hlen hmem);have hcs9:=Hh (three_cells (hF.out.cell u0) (hF.out.cell u1) (hF.out.cell u2));have HAG:=Hh (fun W (hW:Fut w W) => agg_any r Ah Ab ch cb W (hh1.fut RAr.stays hW));have HMK:=Hh (fun W (hW:Fut w W) => makes_any r Ah Ab ch cb W hp (hh1.fut RAr.stays hW) (hh2.fut RLt.stays hW) (by omega));have hb2:=Hh hh2;clear u0 u1 u2 hp hh1 hh2 hrk hmem hlen;obtain ⟨lv0,hob,hown⟩:=hI.out;obtain ⟨w2,hw2⟩:∃ W,(wr.alloc (.cells #[.int .i64 (k:Nat)] 3)).alloc (.cells [.string r.p,.slice Ah r.h.length ch,.slice Ab r.b.length cb].toArray 82)=W:=⟨_,rfl⟩
   have f1:=Fut.alloc wr (.cells #[.int .i64 (k:Nat)] 3);have f2:=Fut.alloc (wr.alloc (.cells #[.int .i64 (k:Nat)] 3)) (.cells [.string r.p,.slice Ah r.h.length ch,.slice Ab r.b.length cb].toArray 82);have hib:=f2.block (heap_alloc_new wr (.cells #[.int .i64 (k:Nat)] 3));have hrb:=heap_alloc_new (wr.alloc (.cells #[.int .i64 (k:Nat)] 3)) (.cells [.string r.p,.slice Ah r.h.length ch,.slice Ab r.b.length cb].toArray 82);have hz1:(wr.alloc (.cells #[.int .i64 (k:Nat)] 3)).heap.size=wr.heap.size+1:=by simp
   rw [hz1] at hrb;have f12:=f1.trans f2;rw [hw2] at f12 hib hrb;clear f1 f2 hz1;have f3:=Fut.alloc w2 (.cells #[.int .i8 1] 127);have hkb:=Hh (show w.heap.size≤w2.heap.size from Nat.le_trans hF.out.size f12.size)
   have GE:EdSt w.heap.size (w2.alloc (.cells #[.int .i8 1] 127)) (wr.heap.size+1) w2.heap.size wr.heap.size (w.heap.size+1) r.p (.slice Ah r.h.length ch) (.slice Ab r.b.length cb) 1 (k:Nat) (edgesP (rs.take k)) lv0 :=
    ⟨f3.block hrb,heap_alloc_new w2 _,f3.block hib,f3.block (f12.block hob),hown.fut REd.stays (f12.trans f3),by omega⟩
   have F3:=(hF.out.trans f12).trans f3;have q0:=cell_at GE.r 0 (.string r.p) rfl;have q1:=cell_at GE.r 1 (.slice Ah r.h.length ch) rfl;have q2:=cell_at GE.r 2 (.slice Ab r.b.length cb) rfl
   have hone:∀ v ∈ ([.string r.p,.slice Ah r.h.length ch,.slice Ab r.b.length cb]:List Value),v.oneCell'=true:=fun v hv => by
    simp only [List.mem_cons,List.not_mem_nil,or_false] at hv;rcases hv with rfl|rfl|rfl <;> rfl
   replace GE:=Hh GE;replace F3:=Hh F3;have hw2h:=Hh hw2;clear hob hown hib hrb f12 f3 hw2 hI;have hkind:r.kind=if r.agg=true then 3 else if r.makes=true then 4 else 1:=rfl
   obtain ⟨ag,hag⟩:∃ g,r.agg=g:=⟨_,rfl⟩
   rw [hag] at hkind;have HC:=HAG.out _ F3.out;rw [hag] at HC;replace HC:=Hh HC;clear hag HAG;cases ag
   ·obtain ⟨mk,hmk⟩:∃ g,r.makes=g:=⟨_,rfl⟩
    rw [hmk] at hkind;simp only [hmk] at HMK;clear hmk;go_wp2_with (first|(refine wpList_rangeBox2 [.string r.p,.slice Ah r.h.length ch,.slice Ab r.b.length cb] (.int .i64 (k:Nat)) rfl rfl rfl rfl rfl rfl rfl rfl rfl rfl rfl hcs9.out Tryz.underlying82 infoRu rfl hone infoIn2 rfl rfl rfl rfl rfl rfl hw2h.out ?_));refine HC.out.mono ?_;rintro e w3 ⟨rfl,f3⟩;have g3:=GE.out.fut f3;have p0:=cell_at g3.r 0 (.string r.p) rfl;have p1:=cell_at g3.r 1 (.slice Ah r.h.length ch) rfl;have p2:=cell_at g3.r 2 (.slice Ab r.b.length cb) rfl;have HC4:=Hh (HMK.out _ (F3.out.trans f3));have G3:=Hh g3;have F3':=Hh (F3.out.trans f3);clear g3 f3 HC HMK q0 q1 q2;go_wp2_with fail;refine HC4.out.mono ?_;rintro e w4 ⟨rfl,f4⟩;have g4:=G3.out.fut f4;have F4:=F3'.out.trans f4;clear f4 p0 p1 p2 HC4;cases mk
    ·have hkd:r.kind=1:=hkind;clear hkind;have hE5:EdSt w.heap.size w4 (wr.heap.size+1) w2.heap.size wr.heap.size (w.heap.size+1) r.p (.slice Ah r.h.length ch) (.slice Ab r.b.length cb) r.kind (k:Nat) (edgesP (rs.take k)) lv0:=by rw [hkd];exact g4
     have hF5:=F4;clear g4 F4 hkd;have HA:=Hh (edges_of r (k:Nat) Ah Ab ch cb (edgesP (rs.take k)) w4 hF5 hb2.out (by have:=hbd.out;omega) ⟨lv0,hE5⟩);have c2':=cell_at hE5.r 2 (Value.slice Ab r.b.length cb) rfl;clear hF5 hE5;go_wp2_with fail;refine HA.out.mono ?_;rintro e w6 ⟨⟨u,rfl⟩,hF6,hE6⟩;have HF6:=Hh hF6
     have HE6:=Hh (show ∃ lv,w6.heap[w.heap.size+1]?=some (.cells #[lv] tEdges (0,0))∧OwnL 4 w.heap.size tEdge REd w6 lv (edgesP (rs.take (k+1))) from by
      obtain ⟨lv,g⟩:=hE6;exact ⟨lv,g.o,by rw [hnx.out];exact g.list⟩)
     clear hF6 hE6 HA;go_wp2;go_roundw
     case rel => exact ⟨k+1,by omega,by go_num,HF6,HE6⟩
     case measure => simp [intOf] <;> omega
    ·have hkd:r.kind=4:=hkind;clear hkind;obtain ⟨w5,hw5⟩:∃ W,w4.setCell ⟨w2.heap.size,0,none⟩ (.int .i8 4)=W:=⟨_,rfl⟩
     have hE5:EdSt w.heap.size w5 (wr.heap.size+1) w2.heap.size wr.heap.size (w.heap.size+1) r.p (.slice Ah r.h.length ch) (.slice Ab r.b.length cb) r.kind (k:Nat) (edgesP (rs.take k)) lv0:=by rw [hkd,← hw5];exact g4.kind
     have hF5:Fut w w5:=by
      have O2:Only (fun k => k=w2.heap.size) w4 w5:=by rw [← hw5];exact Only.set _ _ rfl
      have hO:Only (fun k => w.heap.size≤k) w w5:=(Only.fut F4).trans (O2.mono fun k _ hk => by have:=hkb.out;omega);exact hO.toFut fun k hk => hk
     have c0':=cell_at g4.k 0 (.int .i8 1) rfl;have c1':=free_at g4.k 0;have c2':=cell_at hE5.r 2 (Value.slice Ab r.b.length cb) rfl;have hi3:=infoKd;have HE5:=Hh hE5;have HF5:=Hh hF5;clear hE5 hF5 g4 F4;go_wp2_with (first|(refine wpList_store_1 (wanted_none rfl _) _ _ rfl rfl rfl hi3 rfl c0' c1' hw5 ?_));clear hw5 c0' c1';have hE5:=HE5.out;have hF5:=HF5.out;have HA:=Hh (edges_of r (k:Nat) Ah Ab ch cb (edgesP (rs.take k)) w5 hF5 hb2.out (by have:=hbd.out;omega) ⟨lv0,hE5⟩);have c2':=cell_at hE5.r 2 (Value.slice Ab r.b.length cb) rfl;clear hF5 hE5;go_wp2_with fail;refine HA.out.mono ?_;rintro e w6 ⟨⟨u,rfl⟩,hF6,hE6⟩;have HF6:=Hh hF6
     have HE6:=Hh (show ∃ lv,w6.heap[w.heap.size+1]?=some (.cells #[lv] tEdges (0,0))∧OwnL 4 w.heap.size tEdge REd w6 lv (edgesP (rs.take (k+1))) from by
      obtain ⟨lv,g⟩:=hE6;exact ⟨lv,g.o,by rw [hnx.out];exact g.list⟩)
     clear hF6 hE6 HA;go_wp2;go_roundw
     case rel => exact ⟨k+1,by omega,by go_num,HF6,HE6⟩
     case measure => simp [intOf] <;> omega
   ·have hkd:r.kind=3:=hkind;clear hkind HMK;go_wp2_with (first|(refine wpList_rangeBox2 [.string r.p,.slice Ah r.h.length ch,.slice Ab r.b.length cb] (.int .i64 (k:Nat)) rfl rfl rfl rfl rfl rfl rfl rfl rfl rfl rfl hcs9.out Tryz.underlying82 infoRu rfl hone infoIn2 rfl rfl rfl rfl rfl rfl hw2h.out ?_));refine HC.out.mono ?_;rintro e w3 ⟨rfl,f3⟩;have g4:=GE.out.fut f3;have F4:=F3.out.trans f3;clear f3 HC q0 q1 q2;obtain ⟨w5,hw5⟩:∃ W,w3.setCell ⟨w2.heap.size,0,none⟩ (.int .i8 3)=W:=⟨_,rfl⟩
    have hE5:EdSt w.heap.size w5 (wr.heap.size+1) w2.heap.size wr.heap.size (w.heap.size+1) r.p (.slice Ah r.h.length ch) (.slice Ab r.b.length cb) r.kind (k:Nat) (edgesP (rs.take k)) lv0:=by rw [hkd,← hw5];exact g4.kind
    have hF5:Fut w w5:=by
     have O2:Only (fun k => k=w2.heap.size) w3 w5:=by rw [← hw5];exact Only.set _ _ rfl
     have hO:Only (fun k => w.heap.size≤k) w w5:=(Only.fut F4).trans (O2.mono fun k _ hk => by have:=hkb.out;omega);exact hO.toFut fun k hk => hk
    have c0':=cell_at g4.k 0 (.int .i8 1) rfl;have c1':=free_at g4.k 0;have c2':=cell_at hE5.r 2 (Value.slice Ab r.b.length cb) rfl;have hi3:=infoKd;have HE5:=Hh hE5;have HF5:=Hh hF5;clear hE5 hF5 g4 F4;go_wp2_with (first|(refine wpList_store_1 (wanted_none rfl _) _ _ rfl rfl rfl hi3 rfl c0' c1' hw5 ?_));clear hw5 c0' c1';have hE5:=HE5.out;have hF5:=HF5.out;have HA:=Hh (edges_of r (k:Nat) Ah Ab ch cb (edgesP (rs.take k)) w5 hF5 hb2.out (by have:=hbd.out;omega) ⟨lv0,hE5⟩);have c2':=cell_at hE5.r 2 (Value.slice Ab r.b.length cb) rfl;clear hF5 hE5;go_wp2_with fail;refine HA.out.mono ?_;rintro e w6 ⟨⟨u,rfl⟩,hF6,hE6⟩;have HF6:=Hh hF6
    have HE6:=Hh (show ∃ lv,w6.heap[w.heap.size+1]?=some (.cells #[lv] tEdges (0,0))∧OwnL 4 w.heap.size tEdge REd w6 lv (edgesP (rs.take (k+1))) from by
     obtain ⟨lv,g⟩:=hE6;exact ⟨lv,g.o,by rw [hnx.out];exact g.list⟩)
    clear hF6 hE6 HA;go_wp2;go_roundw
    case rel => exact ⟨k+1,by omega,by go_num,HF6,HE6⟩
    case measure => simp [intOf] <;> omega
  ·obtain rfl:k=rs.length:=by omega
   rw [List.take_length] at hI;obtain ⟨lv,g1,g2⟩:=hI.out;have y1:=cell_at g1 0 lv rfl;replace g2:=Hh g2;clear hI g1;go_wp2;go_ret;exact ⟨_,rfl,g2.out,hF.out⟩
def exZ:Ex:=.mk 0 ⟨⟨#[]⟩,⟨0,0,⟨#[]⟩⟩⟩ []
def ltZ (k:Int) (p:ByteArray):Lt:=⟨k,p,[],0,exZ,exZ⟩
theorem exZ_re (w:World):RE 1 w (exZ.cs (.slice none 0 0)) exZ:=⟨_,rfl,by decide,⟨by decide,by decide,by decide,by decide⟩,SlRep.nil⟩
theorem ltZ_c (w:World) (k:Int) (p:ByteArray) (hk:(Lit.int .i8 k).wf=true) (hp:p.size≤140737488351232):LtC w (ltZ k p) (.slice none 0 0) (.slice none 0 0) (.slice none 0 0) :=
 ⟨SlRep.nil,⟨1,exZ_re w⟩,⟨1,exZ_re w⟩,hk,(by show (Lit.int .i8 0).wf=true;decide),hp⟩
abbrev ltZs (k:Int) (p:ByteArray):List Value:=[.int .i8 k,.string p,.slice none 0 0,.int .i8 0,.int .i8 0,.string ⟨#[]⟩,.int .i8 0,.int .i64 0,.string ⟨#[]⟩,.slice none 0 0,.int .i8 0,.string ⟨#[]⟩,.int .i8 0,.int .i64 0,.string ⟨#[]⟩,.slice none 0 0]
set_option maxHeartbeats 2000000 in
set_option maxRecDepth 100000 in
theorem lawAtom_any (k:Int) (p:ByteArray) (w:World) :
    Calls Tryz.prog 35 #[.int .i8 k,.string p] w fun e w' => e = .returned (.agg (ltZs k p).toArray)∧Fut w w':=by
 go_enter Tryz.func35,Tryz.ntmps35;go_wp2;have hb:=heap_alloc_new w (.cells (ltZs k p).toArray 120);refine bodyPost_ret (v:=.agg (ltZs k p).toArray) (results_cell_row rfl _ _ w.heap.size _ (ltZs k p).toArray _ _ rfl hb Tryz.underlying120 rfl infoLtS) rfl ?_;exact ⟨rfl,Fut.alloc _ _⟩
def xB:ByteArray:=⟨#[120]⟩
def yB:ByteArray:=⟨#[121]⟩
def zB:ByteArray:=⟨#[122]⟩
def ruZ:Ru:=⟨zB,[],[ltZ 2 yB,ltZ 1 zB]⟩
def ruY:Ru:=⟨yB,[],[ltZ 1 xB]⟩
def otherP:List Ru:=[ruZ,ruY]
theorem set_foldO:∀ (l:List Value) (off k:Nat) (arr:Array Value),off+k+l.length≤arr.size→(l.zipIdx k).foldl (fun cs (x:Value×Nat) => cs.setIfInBounds (off+x.2) x.1) arr=(arr.toList.take (off+k)++l++arr.toList.drop (off+k+l.length)).toArray
 | [],off,k,arr,h => by simp
 | v :: r,off,k,arr,h => by
  rw [List.length_cons] at h;rw [List.zipIdx_cons,List.foldl_cons,set_foldO r off (k+1) _ (by simp;omega)];congr 1;have hk:off+k<arr.toList.length:=by simp;omega
  rw [Array.toList_setIfInBounds,List.take_set,List.drop_set];have hz0:off+(k+1) - (off+k+1)=0:=by omega
  simp only [show ¬ off+(k+1)+r.length≤off+k by omega,if_false];rw [List.set_eq_take_append_cons_drop];simp only [List.length_take,show off+k<min (off+(k+1)) arr.toList.length by omega,if_true];rw [List.take_take,show min (off+k) (off+(k+1))=off+k by omega,List.drop_take];simp [List.length_cons,hz0,show off+(k+1)+r.length=off+k+(r.length+1) by omega]
theorem run_slice2 {P:Program} {t e:TypeId} {c1 c2:List Value} {z:Value} {n m:Nat} (ht:P.underlying t=some (.slice e)) (hi:(P.info? e).map (fun i => (i.zero,i.size,i.bytes))=some (some z,n,m)) (h1:c1.length=n) (h2:c2.length=n) (hp:0<n) (hsm:n≤2 ^ 20) (w:World) :
    (Instr.buildSlice t 2 #[(0,.agg c1.toArray),(1,.agg c2.toArray)]).run P w = .ok (.slice (some ⟨w.heap.size,0,none⟩) 2 2) (w.alloc (.cells (c1++c2).toArray e)):=by
 obtain ⟨i,hq,hz,hs,_⟩:=info_parts hi;refine run_buildSlice w t e 2 _ _ i z ht hq hz (by rw [hs];omega) (by rw [hs];omega) ?_;rw [hs];have e1:∀ c:List Value,(Value.agg c.toArray).cells=c.toArray:=fun c => rfl;obtain ⟨arr,harr⟩:∃ a,((Array.range (2 * n)).map (z.cells[· % z.cells.size]!))=a:=⟨_,rfl⟩
 have hsz:arr.size=2 * n:=by rw [← harr];simp
 rw [harr];have f1:=set_foldO c1 0 0 arr (by omega)
 have f2:∀ a2:Array Value,a2.size=2 * n→(c2.zipIdx 0).foldl (fun cs (x:Value×Nat) => cs.setIfInBounds (n+x.2) x.1) a2=(a2.toList.take n++c2).toArray:=fun a2 ha => by
  rw [set_foldO c2 n 0 a2 (by omega)];have:a2.toList.drop (n+0+c2.length)=[]:=List.drop_eq_nil_of_le (by simp;omega);rw [this,List.append_nil,Nat.add_zero]
 unfold Instr.fill Instr.fill Instr.fill;simp only [Nat.zero_mul,Nat.one_mul,e1];rw [if_neg (by simp;omega)];rw [← Array.foldl_toList,Array.toList_zipIdx];simp only [List.toList_toArray];rw [f1,if_neg (by simp;omega),← Array.foldl_toList,Array.toList_zipIdx];simp only [List.toList_toArray];rw [f2 _ (by simp;omega)];simp;rw [← h1,List.take_left]
theorem wpList_slice2 {P:Program} {ops:Array Oper} {rest:List Oper} {o:Oper} {a:Act} {w:World} {Q:Exit→Act→World→Prop} {t e:TypeId} {c1 c2:List Value} {z:Value} {n m:Nat} (hg:o.guard=none) (x y:Operand) (ho:o.op = .buildSlice t 2 #[(0,x),(1,y)]) (hx:a.eval x = .agg c1.toArray) (hy:a.eval y = .agg c2.toArray)
    (ht:P.underlying t=some (.slice e)) (hi:(P.info? e).map (fun i => (i.zero,i.size,i.bytes))=some (some z,n,m)) (h1:c1.length=n) (h2:c2.length=n) (hp:0<n) (hsm:n≤2 ^ 20)
    (h:wpList P ops Q rest (a.put o.dst (.slice (some ⟨w.heap.size,0,none⟩) 2 2)) (w.alloc (.cells (c1++c2).toArray e))):wpList P ops Q (o :: rest) a w:=by
 refine wpList_of_run (wanted_none hg _) (v:=.slice (some ⟨w.heap.size,0,none⟩) 2 2) (w':=w.alloc (.cells (c1++c2).toArray e)) ?_ h;unfold execOp;have h1':(#[((0:Nat),x),((1:Nat),y)].map fun (i,x) => (i,a.eval x))=#[(0,.agg c1.toArray),(1,.agg c2.toArray)]:=by simp [hx,hy]
 simp only [ho,h1',Sem.run_bind,Sem.run_pure,Result.andThen_ok,run_slice2 ht hi h1 h2 hp hsm]
theorem slBlk {α:Type} {sz b:Nat} {R:World→List Value→α→Prop} {W:World} {t:TypeId} {css:List (List Value)} {xs:List α} (h:W.heap[b]?=some (.cells css.flatten.toArray t (0,0))) (hl:css.length=xs.length) (hs:∀ (i:Nat) (cs:List Value),css[i]?=some cs→cs.length=sz) (hR:∀ (i:Nat) (cs:List Value) (x:α),css[i]?=some cs→xs[i]?=some x→R W cs x) :
    SlRep sz xs.length R W (.slice (some ⟨b,0,none⟩) xs.length xs.length) xs :=
 ⟨_,_,rfl,Nat.le_refl _,Nat.le_refl _,fun i x hx => by
  have hi:i<css.length:=by have:=(List.getElem?_eq_some_iff.1 hx).1;omega
  refine ⟨b,0,css[i],rfl,hs i _ (List.getElem?_eq_getElem hi),fun j c hj => ?_,hR i _ x (List.getElem?_eq_getElem hi) hx⟩;have:=flatten_at hs i j _ c (List.getElem?_eq_getElem hi) hj;rw [Nat.zero_add];exact cell_at h _ c (by simpa using this)⟩
theorem ltZ_rlt (W:World) (k:Int) (p:ByteArray) (hk:(Lit.int .i8 k).wf=true) (hp:p.size≤140737488351232):RLt W (ltZs k p) (ltZ k p):=(ltZ_c W k p hk hp).rlt
theorem lits2 {W:World} {b:Nat} {t:TypeId} {k1 k2:Int} {p1 p2:ByteArray} (h:W.heap[b]?=some (.cells (ltZs k1 p1++ltZs k2 p2).toArray t (0,0))) (a1:(Lit.int .i8 k1).wf=true) (a2:(Lit.int .i8 k2).wf=true) (b1:p1.size≤140737488351232) (b2:p2.size≤140737488351232) :
    SlRep 16 651562446089 RLt W (.slice (some ⟨b,0,none⟩) 2 2) [ltZ k1 p1,ltZ k2 p2] :=
 (slBlk (css:=[ltZs k1 p1,ltZs k2 p2]) (xs:=[ltZ k1 p1,ltZ k2 p2]) (by simpa using h) rfl (fun i cs hi => by
  match i,hi with
  | 0,hi => injection hi with hi;subst hi;rfl
  | 1,hi => injection hi with hi;subst hi;rfl) (fun i cs x hi hx => by
  match i,hi,hx with
  | 0,hi,hx => injection hi with hi;injection hx with hx;subst hi;subst hx;exact ltZ_rlt W _ _ a1 b1
  | 1,hi,hx => injection hi with hi;injection hx with hx;subst hi;subst hx;exact ltZ_rlt W _ _ a2 b2)).more (by show (2:Nat)≤_;decide)
theorem lits1 {W:World} {b:Nat} {t:TypeId} {k1:Int} {p1:ByteArray} (h:W.heap[b]?=some (.cells (ltZs k1 p1).toArray t (0,0))) (a1:(Lit.int .i8 k1).wf=true) (b1:p1.size≤140737488351232) :
    SlRep 16 651562446089 RLt W (.slice (some ⟨b,0,none⟩) 1 1) [ltZ k1 p1] :=
 (slBlk (css:=[ltZs k1 p1]) (xs:=[ltZ k1 p1]) (by simpa using h) rfl (fun i cs hi => by
  match i,hi with
  | 0,hi => injection hi with hi;subst hi;rfl) (fun i cs x hi hx => by
  match i,hi,hx with
  | 0,hi,hx => injection hi with hi;injection hx with hx;subst hi;subst hx;exact ltZ_rlt W _ _ a1 b1)).more (by show (1:Nat)≤_;decide)
theorem rules2 {W:World} {b g1 g2:Nat} {t:TypeId} (h:W.heap[b]?=some (.cells #[.string zB,.slice none 0 0,.slice (some ⟨g1,0,none⟩) 2 2,.string yB,.slice none 0 0,.slice (some ⟨g2,0,none⟩) 1 1] t (0,0))) (h1:SlRep 16 651562446089 RLt W (.slice (some ⟨g1,0,none⟩) 2 2) ruZ.b) (h2:SlRep 16 651562446089 RLt W (.slice (some ⟨g2,0,none⟩) 1 1) ruY.b) :
    SlRep 3 2199023255552 RRu W (.slice (some ⟨b,0,none⟩) 2 2) otherP :=
 (slBlk (css:=[[.string zB,.slice none 0 0,.slice (some ⟨g1,0,none⟩) 2 2],[.string yB,.slice none 0 0,.slice (some ⟨g2,0,none⟩) 1 1]]) (xs:=otherP) (by simpa using h) rfl (fun i cs hi => by
  match i,hi with
  | 0,hi => injection hi with hi;subst hi;rfl
  | 1,hi => injection hi with hi;subst hi;rfl) (fun i cs x hi hx => by
  match i,hi,hx with
  | 0,hi,hx => injection hi with hi;injection hx with hx;subst hi;subst hx;exact ⟨_,_,rfl,by decide,SlRep.nil,h1⟩
  | 1,hi,hx => injection hi with hi;injection hx with hx;subst hi;subst hx;exact ⟨_,_,rfl,by decide,SlRep.nil,h2⟩)).more (by decide)
theorem infoPg:(Tryz.prog.info? 28).map (·.size)=some 1:=by kernel_rfl
set_option maxHeartbeats 4000000 in
set_option maxRecDepth 100000 in
theorem other_own (w:World):Calls Tryz.prog 10 #[] w fun e w' => ∃ A,e = .returned (.agg #[.slice A 2 2])∧(∀ W',Only (fun k => k<w.heap.size) w' W'→SlRep 3 2199023255552 RRu W' (.slice A 2 2) otherP)∧Fut w w'∧∀ a,A=some a→w.heap.size≤a.block:=by
 have hc:=fun (k:Int) (p:ByteArray) W => lawAtom_any k p W;go_enter Tryz.func10,Tryz.ntmps10;go_wp2_with fail;refine (hc 2 yB _).mono ?_;rintro e w1 ⟨rfl,f1⟩;go_wp2_with fail;refine (hc 1 zB _).mono ?_;rintro e w2 ⟨rfl,f2⟩;go_wp2_with (first|(refine wpList_slice2 (c1:=ltZs 2 yB) (c2:=ltZs 1 zB) rfl _ _ rfl rfl rfl Tryz.underlying80 infoLtF rfl rfl (by decide) (by decide) ?_));refine (hc 1 xB _).mono ?_;rintro e w3 ⟨rfl,f3⟩;have f12:=Fut.alloc w2 (.cells (ltZs 2 yB++ltZs 1 zB).toArray 120);have bl:=f3.block (heap_alloc_new w2 (.cells (ltZs 2 yB++ltZs 1 zB).toArray 120));have f34:=Fut.alloc w3 (.cells (ltZs 1 xB).toArray 120);have f45:=Fut.alloc (w3.alloc (.cells (ltZs 1 xB).toArray 120)) (.cells #[.string ⟨#[122]⟩,.slice none 0 0,.slice (some ⟨w2.heap.size,0,none⟩) 2 2,.string ⟨#[121]⟩,.slice none 0 0,.slice (some ⟨w3.heap.size,0,none⟩) 1 1] 82);have b0:=f45.block (f34.block (f3.block (f12.block (f2.block (f1.block (heap_alloc_new w (.cells #[.slice none 0 0] 28)))))));have b1:=f45.block (f34.block bl);have b2:=f45.block (heap_alloc_new w3 (.cells (ltZs 1 xB).toArray 120));have b3:=heap_alloc_new (w3.alloc (.cells (ltZs 1 xB).toArray 120)) (.cells #[.string ⟨#[122]⟩,.slice none 0 0,.slice (some ⟨w2.heap.size,0,none⟩) 2 2,.string ⟨#[121]⟩,.slice none 0 0,.slice (some ⟨w3.heap.size,0,none⟩) 1 1] 82);have z4:(w3.alloc (.cells (ltZs 1 xB).toArray 120)).heap.size=w3.heap.size+1:=by simp
 rw [z4] at b3;have k0:=cell_at b0 0 (.slice none 0 0) rfl;have k1:=free_at b0 0;have F0:=Hh (((((Fut.alloc w (.cells #[.slice none 0 0] 28)).trans f1).trans f2).trans f12).trans ((f3.trans f34).trans f45))
 have n2:w.heap.size<w2.heap.size:=by
  have h9:=(f1.trans f2).size;rw [show (w.alloc (.cells #[.slice none 0 0] 28)).heap.size=w.heap.size+1 from by simp] at h9;omega
 have n3:w.heap.size<w3.heap.size:=by
  have h9:=(f12.trans f3).size;omega
 have HB:=Hh (And.intro b0 (And.intro b1 (And.intro b2 b3)));have HN:=Hh (And.intro n2 n3);clear bl b0 b1 b2 b3 f12 f34 f45 f1 f2 f3 z4 n2 n3;go_wp2_with (first|(refine wpList_slice1 (cs:=ltZs 1 xB) rfl _ rfl rfl Tryz.underlying80 infoLtF rfl rfl (by decide) (by decide) ?_));obtain ⟨b0,b1,b2,b3⟩:=HB.out;obtain ⟨n2,n3⟩:=HN.out;obtain ⟨w5,hw5⟩:∃ W,((w3.alloc (.cells (ltZs 1 xB).toArray 120)).alloc (.cells #[.string ⟨#[122]⟩,.slice none 0 0,.slice (some ⟨w2.heap.size,0,none⟩) 2 2,.string ⟨#[121]⟩,.slice none 0 0,.slice (some ⟨w3.heap.size,0,none⟩) 1 1] 82)).setCell ⟨w.heap.size,0,none⟩ (.slice (some ⟨w3.heap.size+1,0,none⟩) 2 2)=W:=⟨_,rfl⟩
 have O2:Only (fun k => k=w.heap.size) ((w3.alloc (.cells (ltZs 1 xB).toArray 120)).alloc (.cells #[.string ⟨#[122]⟩,.slice none 0 0,.slice (some ⟨w2.heap.size,0,none⟩) 2 2,.string ⟨#[121]⟩,.slice none 0 0,.slice (some ⟨w3.heap.size,0,none⟩) 1 1] 82)) w5:=by rw [← hw5];exact Only.set _ _ rfl
 have hb:=set_block (j:=0) (v:=.slice (some ⟨w3.heap.size+1,0,none⟩) 2 2) b0;rw [hw5] at hb;rw [hw5];have LR:=fun W' (hO:Only (fun k => k<w.heap.size) w5 W') => rules2 (hO.keeps (O2.keeps b3 (by omega)) (by omega)) (lits2 (hO.keeps (O2.keeps b1 (by omega)) (by omega)) (by decide) (by decide) (by decide) (by decide)) (lits1 (hO.keeps (O2.keeps b2 (by omega)) (by omega)) (by decide) (by decide));have OW:Only (fun k => w.heap.size≤k) w w5:=(Only.fut F0.out).trans (O2.mono fun k _ hk => by omega);refine bodyPost_ret (v:=.agg #[.slice (some ⟨w3.heap.size+1,0,none⟩) 2 2]) (results_cell_row rfl _ _ w.heap.size _ #[.slice (some ⟨w3.heap.size+1,0,none⟩) 2 2] _ _ rfl hb Tryz.underlying28 rfl infoPg) rfl ?_;exact ⟨_,rfl,LR,OW.toFut (fun k hk => hk),fun a ha => by injection ha with ha;subst ha;show w.heap.size≤w3.heap.size+1;omega⟩
theorem other_any (w:World):Calls Tryz.prog 10 #[] w fun e w' => ∃ A,e = .returned (.agg #[.slice A 2 2])∧SlRep 3 2199023255552 RRu w' (.slice A 2 2) otherP∧Fut w w':=by
 refine (other_own w).mono ?_;rintro e w' ⟨A,h1,h2,h3,_⟩;exact ⟨A,h1,h2 w' (Only.refl _),h3⟩
theorem TwTm.rd {B M:Nat} {w0 w:World} {v0 v:Value} {xs:List Tm} (h0:SlRep 4 M RTm w0 v0 xs) (h:TwTm B w v xs) (hs:xs.length≤100000000):SlRep 4 2932031007402 RTm w v xs :=
 TwinE.rep h (fun g cs x hx hc => by
  obtain ⟨cs0,_,hok⟩:=sl_mem h0 x hx;exact ⟨hc,hok⟩) (by omega)
theorem TwAr.rd {B M:Nat} {w0 w:World} {v0 v:Value} {xs:List Ar} (h0:SlRep 5 M RAr w0 v0 xs) (h:TwAr B w v xs) (hs:xs.length≤100000000):SlRep 5 2513169434916 RAr w v xs :=
 TwinE.rep h (fun g cs x hx hc => by
  obtain ⟨cs0,_,hok⟩:=sl_mem h0 x hx;exact ⟨hc,hok⟩) (by omega)
theorem TwEx.re:∀ (m:Nat) {n g:Nat} {w0 w:World} {cs0 cs:List Value} {x:Ex},RE n w0 cs0 x→TwEx m g w cs x→x.size≤100000000→RE m w cs x
 | 0,_,_,_,_,_,_,_,_,h,_ => h.elim
 | m+1,0,_,_,_,_,_,_,h,_,_ => h.elim
 | m+1,n+1,g,w0,w,cs0,cs,.mk op t kids,h0,h,hs => by
  obtain ⟨kv0,_,hw,hok,hk0⟩:=h0;obtain ⟨kv,h1,h2⟩:=h
  have hsz:Ex.sizes kids<100000000:=by
   unfold Ex.size at hs;omega
  refine ⟨kv,h1,hw,hok,TwinE.rep h2 (fun g cs x hx hc => ?_) ?_⟩
  ·obtain ⟨cs1,h3⟩:=sl_mem hk0 x hx;exact TwEx.re m h3 hc (by have:=size_kid hx;omega)
  ·have:=len_sizes kids;omega
theorem TwLt.rlt {g:Nat} {w0 w:World} {cs0 cs:List Value} {x:Lt} (h0:RLt w0 cs0 x) (h:TwLt g w cs x) (hs:x.fits):RLt w cs x:=by
 obtain ⟨_,_,_,_,_,_,a1,a2,a3,a4,⟨n1,a5⟩,⟨n2,a6⟩⟩:=h0;obtain ⟨av,cl,cd,m1,m2,e,b1,b2,b3⟩:=h;obtain ⟨s1,s2,s3⟩:=hs;have r2:=TwEx.re m1 a5 b2 s2;have r3:=TwEx.re m2 a6 b3 s3;have l2:cl.length=6:=by obtain ⟨_,_,_,ks1,A1,c1,_,_,rfl,_,_,_⟩:=ex_form r2;rfl
 have l3:cd.length=6:=by obtain ⟨_,_,_,ks1,A1,c1,_,_,rfl,_,_,_⟩:=ex_form r3;rfl
 exact ⟨av,cl,cd,e,l2,l3,a1,a2,a3,TwTm.rd a4 b1 s1,⟨m1,r2⟩,⟨m2,r3⟩⟩
theorem TwRu.rru {g:Nat} {w0 w:World} {cs0 cs:List Value} {x:Ru} (h0:RRu w0 cs0 x) (h:TwRu g w cs x) (hs:x.fits):RRu w cs x:=by
 obtain ⟨_,_,_,a1,a2,a3⟩:=h0;obtain ⟨hv,bv,e,b1,b2⟩:=h;obtain ⟨s1,s2,s3⟩:=hs;refine ⟨hv,bv,e,a1,TwAr.rd a2 b1 s1,TwinE.rep b2 (fun g cs x hx hc => ?_) (by omega)⟩;obtain ⟨cs1,h3⟩:=sl_mem a3 x hx;exact TwLt.rlt h3 hc (s3 x hx)
def RKu (g:Nat) (w:World) (cs:List Value) (x:Ru):Prop:=∀ w',Only (fun k => k=g) w w'→RRu w' cs x
theorem RKu.only {g:Nat} {w w':World} {cs:List Value} {x:Ru} (h:RKu g w cs x) (hO:Only (fun k => k=g) w w'):RKu g w' cs x:=fun w2 h2 => h w2 (hO.trans h2)
theorem RKu.now {g:Nat} {w:World} {cs:List Value} {x:Ru} (h:RKu g w cs x):RRu w cs x:=h w (Only.refl _)
def SlU (g:Nat) (w:World) (v:Value) (xs:List Ru):Prop :=
 v = .slice (some ⟨g,0,none⟩) xs.length (xs.length+1)∧xs.length≤100000000∧∃ arr,w.heap[g]?=some (.cells arr 82 (0,0))∧(xs.length+1) * 3≤arr.size∧∀ (i:Nat) (x:Ru),xs[i]?=some x→∃ cs:List Value,cs.length=3∧(∀ (j:Nat) (c:Value),cs[j]?=some c→arr[i * 3+j]?=some c)∧RKu g w cs x
theorem SlU.fut {g:Nat} {w w':World} {v:Value} {xs:List Ru} (h:SlU g w v xs) (hf:Fut w w'):SlU g w' v xs:=by
 obtain ⟨h1,h2,arr,h3,h4,h5⟩:=h
 exact ⟨h1,h2,arr,hf.block h3,h4,fun i x hx => by
  obtain ⟨cs,a,b,c⟩:=h5 i x hx;exact ⟨cs,a,b,c.only (Only.fut hf)⟩⟩
theorem SlU.rep {g:Nat} {w:World} {v:Value} {xs:List Ru} (h:SlU g w v xs):SlRep 3 100000001 RRu w v xs:=by
 obtain ⟨rfl,h2,arr,h3,h4,h5⟩:=h;refine ⟨_,_,rfl,Nat.le_succ _,by omega,fun i x hx => ?_⟩;obtain ⟨cs,a,b,c⟩:=h5 i x hx;refine ⟨g,0,cs,rfl,a,fun j v hj => ?_,c.now⟩;rw [Nat.zero_add];exact cell_at h3 _ v (b j v hj)
theorem TwRus.slU {B M:Nat} {w0 w:World} {v0 v:Value} {xs:List Ru} (h0:SlRep 3 M RRu w0 v0 xs) (h:TwRus B w v xs) (hn:xs.length≤100000000) (hs:∀ x ∈ xs,x.fits):∃ g,B≤g∧SlU g w v xs:=by
 obtain ⟨g,css,h1,rfl,h3,h4,h5,h6⟩:=h;obtain ⟨arr,b1,b2,b3⟩:=h4;refine ⟨g,h1,rfl,hn,arr,b1,by omega,fun i x hx => ?_⟩;have hil:i<xs.length:=(List.getElem?_eq_some_iff.1 hx).1;have hc:css[i]?=some (css[i]'(by omega)):=List.getElem?_eq_getElem (by omega);obtain ⟨hl,hre⟩:=h5 i x _ hx hc;refine ⟨_,hl,fun j c hj => ?_,fun w' hO => ?_⟩
 ·have hjl:j<3:=by rw [← hl];exact (List.getElem?_eq_some_iff.1 hj).1
  have hlt:i * 3+j<(xs.length+1) * 3:=by omega
  have h9:=b3 (i * 3+j) hlt;rw [cellsAt_get hc hj hjl] at h9;have h8:i * 3+j<arr.size:=by omega
  rw [Array.getElem?_eq_getElem h8,← h9];simp [Array.getD,h8]
 ·obtain ⟨cs0,h9⟩:=sl_mem h0 x (List.mem_of_getElem? hx);exact TwRu.rru h9 (hre.only hO fun k hk e => by omega) (hs x (List.mem_of_getElem? hx))
theorem SlU.put {g:Nat} {w:World} {v:Value} {xs:List Ru} (h:SlU g w v xs) (i:Nat) (hi:i<xs.length) (cs:List Value) (z:Ru) (hl:cs.length=3) (hz:RKu g w cs z) :
    w.there g (i * 3) 3∧SlU g (w.setCells g (i * 3) cs) v (xs.set i z)∧Only (fun k => k=g) w (w.setCells g (i * 3) cs):=by
 obtain ⟨rfl,h2,arr,h3,h4,h5⟩:=h;obtain ⟨arr',e1,e2,e3⟩:=setCells_put cs (i * 3) w arr h3;have hO:Only (fun k => k=g) w (w.setCells g (i * 3) cs):=by rw [e1];exact Only.put g _ rfl
 refine ⟨fun j hj => ⟨?_,?_⟩,⟨by rw [List.length_set],by rw [List.length_set];exact h2,arr',?_,by rw [List.length_set,e2];exact h4,fun m x hx => ?_⟩,hO⟩
 ·simp [World.cell?,h3];omega
 ·simp [World.frozen?,h3]
 ·rw [e1];have:=(Array.getElem?_eq_some_iff.1 h3).1;simp [World.putObj,this]
 ·rw [List.getElem?_set] at hx
  by_cases hm:i=m
  ·subst hm;rw [if_pos rfl,if_pos hi] at hx;obtain rfl:=Option.some.inj hx;refine ⟨cs,hl,fun j c hj => ?_,hz.only hO⟩;have hj3:j<3:=by rw [← hl];exact (List.getElem?_eq_some_iff.1 hj).1
   rw [e3,if_pos ⟨by omega,by omega,by omega⟩];have:i * 3+j - i * 3=j:=by omega
   rw [this];exact hj
  ·rw [if_neg hm] at hx;obtain ⟨cs2,a,b,c⟩:=h5 m x hx;refine ⟨cs2,a,fun j c' hj => ?_,c.only hO⟩;have hj3:j<3:=by rw [← a];exact (List.getElem?_eq_some_iff.1 hj).1
   have hml:m<xs.length:=(List.getElem?_eq_some_iff.1 hx).1;have hne:¬ (i * 3≤m * 3+j∧m * 3+j<i * 3+cs.length∧m * 3+j<arr.size):=by omega
   rw [e3,if_neg hne];exact b j c' hj
end Go.Proofs.YtobabnpllokkaaaGreatDoor
namespace Go.Proofs.YtobabnpllokkaaaGreatDoor
open Go.RowKit
section
variable {α:Type}
def TurnK (xs ys:List α) (i:Nat):Prop:=ys.length=xs.length∧∀ j,j<xs.length→ys[j]?=if j<i∨xs.length - i≤j then xs[xs.length - 1 - j]? else xs[j]?
theorem TurnK.start (xs:List α):TurnK xs xs 0:=⟨rfl,fun j hj => by rw [if_neg (by omega)]⟩
theorem TurnK.step {xs ys:List α} {i:Nat} (h:TurnK xs ys i) (hi:i<xs.length / 2) {a b:α} (ha:ys[i]?=some a) (hb:ys[xs.length - 1 - i]?=some b):TurnK xs ((ys.set i b).set (xs.length - 1 - i) a) (i+1):=by
 obtain ⟨hl,hg⟩:=h;refine ⟨by rw [List.length_set,List.length_set,hl],fun j hj => ?_⟩;rw [List.getElem?_set,List.length_set,hl];have e1:=hg i (by omega);rw [if_neg (by omega)] at e1;have e2:=hg (xs.length - 1 - i) (by omega);rw [if_neg (by omega)] at e2
 by_cases h1:xs.length - 1 - i=j
 ·subst h1;rw [if_pos rfl,if_pos (by omega),if_pos (.inr (by omega))];have:xs.length - 1 - (xs.length - 1 - i)=i:=by omega
  rw [this,← e1,ha]
 ·rw [if_neg h1,List.getElem?_set,hl]
  by_cases h2:i=j
  ·subst h2;rw [if_pos rfl,if_pos (by omega),if_pos (.inl (by omega)),← e2,hb]
  ·rw [if_neg h2,hg j hj]
   by_cases h3:j<i∨xs.length - i≤j
   ·rw [if_pos h3,if_pos (by omega)]
   ·rw [if_neg h3,if_neg (by omega)]
theorem TurnK.done {xs ys:List α} (h:TurnK xs ys (xs.length / 2)):ys=xs.reverse:=by
 obtain ⟨hl,hg⟩:=h;refine List.ext_getElem? fun j => ?_
 by_cases hj:j<xs.length
 ·rw [hg j hj,List.getElem?_reverse hj]
  by_cases h3:j<xs.length / 2∨xs.length - xs.length / 2≤j
  ·rw [if_pos h3]
  ·rw [if_neg h3];congr 1;omega
 ·rw [List.getElem?_eq_none (by omega),List.getElem?_eq_none (by rw [List.length_reverse];omega)]
end
end Go.Proofs.YtobabnpllokkaaaGreatDoor
namespace Go.Proofs.YtobabnpllokkaaaGreatDoor
open Go.RowKit Go.WideMaps Go.Maps
section
variable {α:Type} {sz B M:Nat} {e:TypeId} {R:World→List Value→α→Prop} {w0 w:World} {v:Value} {xs:List α}
abbrev Fix (R:World→List Value→α→Prop) (w0:World):World→List Value→α→Prop:=fun _ cs x => R w0 cs x
theorem OwnL.unfix (h:OwnL sz B e (Fix R w0) w v xs) (hR:Stays R) (f:Fut w0 w):OwnL sz B e R w v xs:=h.imp fun cs x hx => hR _ _ _ _ f hx
theorem Fix.keeps (R:World→List Value→α→Prop) (w0:World) (e:TypeId):Keeps e (Fix R w0):=fun _ _ _ _ _ h _ _ => h
end
theorem Ru.one {w:World} {cs:List Value} {x:Ru} (h:RRu w cs x):∀ u ∈ cs,u.oneCell'=true:=by
 obtain ⟨hv,bv,rfl,_,a2,a3⟩:=h;obtain ⟨_,_,rfl,_⟩:=a2.form;obtain ⟨_,_,rfl,_⟩:=a3.form;intro u hu;simp only [List.mem_cons,List.not_mem_nil,or_false] at hu;rcases hu with rfl|rfl|rfl <;> rfl
theorem parts_rev (rs:List Ru):(rs.reverse.map Ru.parts).sum=(rs.map Ru.parts).sum:=by
 rw [List.map_reverse,List.sum_reverse]
theorem small_rev {rs:List Ru} (h:(rs.map Ru.parts).sum≤1048576):Small rs.reverse:=by
 unfold Small;rw [parts_rev];omega
theorem small_two {rs:List Ru} (h:(rs.map Ru.parts).sum≤1048576):Small (rs++rs.reverse):=by
 unfold Small;rw [List.map_append,List.sum_append,parts_rev];omega
theorem mem_rev {rs:List Ru} (r:Ru):r ∈ rs↔r ∈ rs.reverse:=List.mem_reverse.symm
theorem SlU.swap {g:Nat} {w:World} {v:Value} {ys:List Ru} (h:SlU g w v ys) {i k:Nat} (hi:i<ys.length) (hk:k<ys.length) :
    ∃ ci ck:List Value,ci.length=3∧ck.length=3∧(∀ (j:Nat) (c:Value),ci[j]?=some c→w.cell? ⟨g,i * 3+j,none⟩=some c)∧(∀ (j:Nat) (c:Value),ck[j]?=some c→w.cell? ⟨g,k * 3+j,none⟩=some c)∧w.there g (i * 3) 3∧(w.setCells g (i * 3) ck).there g (k * 3) 3 ∧
     SlU g ((w.setCells g (i * 3) ck).setCells g (k * 3) ci) v ((ys.set i ys[k]).set k ys[i])∧Only (fun b => b=g) w ((w.setCells g (i * 3) ck).setCells g (k * 3) ci)∧(∀ v ∈ ci,v.oneCell'=true)∧∀ v ∈ ck,v.oneCell'=true:=by
 have h0:=h;obtain ⟨_,_,arr,h3,_,h5⟩:=h0;obtain ⟨ci,a1,a2,a3⟩:=h5 i ys[i] (List.getElem?_eq_getElem hi);obtain ⟨ck,b1,b2,b3⟩:=h5 k ys[k] (List.getElem?_eq_getElem hk);obtain ⟨p1,p2,p3⟩:=h.put i hi ck ys[k] b1 b3;obtain ⟨q1,q2,q3⟩:=p2.put k (by rw [List.length_set];exact hk) ci ys[i] a1 (a3.only p3);exact ⟨ci,ck,a1,b1,fun j c hj => cell_at h3 _ c (a2 j c hj),fun j c hj => cell_at h3 _ c (b2 j c hj),p1,q1,q2,p3.trans q3,Ru.one a3.now,Ru.one b3.now⟩
end Go.Proofs.YtobabnpllokkaaaGreatDoor
