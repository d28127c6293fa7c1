/- Parts. -/
import Derived.Test.YtobabnpllokkaaaGreatDoorP19
import Derived.Test.YtobabnpllokkaaaGreatDoorP08
import Derived.Test.YtobabnpllokkaaaGreatDoorP11
import Derived.Test.YtobabnpllokkaaaGreatDoorP00
set_option linter.unusedSimpArgs false
set_option linter.unusedVariables false
namespace Go.Proofs.YtobabnpllokkaaaGreatDoor
open Go.RowKit
set_option maxHeartbeats 4000000 in
set_option maxRecDepth 100000 in
theorem rrts_any (x:Ru) (Ah Ab:Option Addr) (ch cb:Nat) (w:World) (h1:SlRep 5 2513169434916 RAr w (.slice Ah x.h.length ch) x.h) (h2:SlRep 16 651562446089 RLt w (.slice Ab x.b.length cb) x.b) (hl:x.tms.length≤1000000000) :
    Calls Tryz.prog 264 #[.agg #[.string x.p,.slice Ah x.h.length ch,.slice Ab x.b.length cb]] w fun e w' => ∃ v,e = .returned v∧OwnL 4 w.heap.size 115 RTm w' v x.tms∧Fut w w':=by
 obtain ⟨p,xh,xb⟩:=x;unfold Ru.tms at *;dsimp only at *;rw [List.length_append,List.length_map] at hl;have hhl:=h1.len;have hbl:=h2.len;have H1:=Hh h1;have H2:=Hh h2;have HL:=Hh hl;have hbx:=heap_alloc_new w (.cells #[.string p,.slice Ah xh.length ch,.slice Ab xb.length cb] 82);have f0:=Fut.alloc w (.cells #[.string p,.slice Ah xh.length ch,.slice Ab xb.length cb] 82);have hO:OwnL 4 w.heap.size 115 RTm w (.slice none 0 0) []:=OwnL.nil;have T0:Hid (TmsAt w w (w.alloc (.cells #[.string p,.slice Ah xh.length ch,.slice Ab xb.length cb] 82)) (.slice none 0 0) (.slice none 0 0) ((xh.take 0).map (·.t))):=Hh ⟨hO.fut RTm.stays f0,Only.fut f0,fun k hk => .inl hk⟩;have N0:Hid (∀ j,(Value.slice none 0 0).ownBlock=some j→j≠w.heap.size):=Hh fun j hj => by have:=(hO.block j hj).2;omega
 have B0:=Hh hbx;have HO:=Hh hO;clear h1 h2 hl hbx f0 hO;go_enter Tryz.func264,Tryz.ntmps264;go_wp2_with fail;go_loopw [3,4] (fun u i wr => ∃ q:Nat,q≤xh.length∧i = .int .i64 q∧Hid (TmsAt w w wr (.slice none 0 0) u ((xh.take q).map (·.t)))∧Hid (∀ j,u.ownBlock=some j→j≠w.heap.size)∧Hid (wr.heap[w.heap.size]?=some (.cells #[.string p,.slice Ah xh.length ch,.slice Ab xb.length cb] 82 (0,0)))) (fun _ i _ => xh.length - (intOf i).toNat)
 case atStart => exact ⟨0,Nat.zero_le _,rfl,T0,N0,B0⟩
 case round =>
  obtain ⟨q,hq,rfl,hT,hN,hB⟩:=hrel;have y1:=cell_at hB.out 1 _ rfl;have FW:=Hh (hT.out.fut (Fut.refl w) HO.out)
  by_cases hlt:q<xh.length
  ·have hltI:(q:Int)<xh.length:=by omega
   have e0:(0:Int)≤q∧(q:Int)<xh.length:=by omega
   have htk:=Hh (show (xh.take (q+1)).map (·.t)=(xh.take q).map (·.t)++[(xh[q]).t] by rw [List.take_succ_eq_append_getElem hlt,List.map_append];rfl);obtain ⟨b',off,rfl,_,hok,u0',u1',u2',u3',u4'⟩:=ar_at (H1.out.fut RAr.stays FW.out) hlt;obtain ⟨M,hM⟩:∃ M,(xh.take q).map (·.t)=M:=⟨_,rfl⟩
   have hMl:M.length+1≤1000000000:=(by have:=HL.out;rw [← hM,List.length_map,List.length_take];omega)
   rw [hM] at hT htk;generalize (xh[q]).t=z at *;have hsw:=Hh FW.out.size;obtain ⟨Au,cu,rfl,_,_⟩:=hT.out.1.rep.form;have hO2:=Hh (fun o => hT.out.1.fut RTm.stays (Fut.alloc wr o));have hu:=Hh (tmOne wr z hok 115);clear hok hM u0';go_wp2_with (first|(at_builtin;refine wpList_append_LB (R:=RTm) (B:=w.heap.size) (M:=1) (xs:=M) (ys:=[z]) (e:=115) (by go_simp) _ _ 106 rfl Tryz.underlying106 (.agg zTm.toArray) 48 infoTm4 rfl (by decide) RTm.one RTm.keeps rfl rfl (hO2.out _) hu.out ?l3 ?m3 ?b3 ?k3))
   case l3 => simp [maxLen];omega
   case m3 => simp;omega
   case b3 => have:=hsw.out;simp;omega
   case k3 =>
   intro v' w' o' g' sn';have T1:=hT.out.more o' g' sn';obtain ⟨hB3,hN3⟩:=((TmsAt.refl hT.out.1).more o' g' sn').keep hB.out hN.out;rw [← htk.out] at T1;have HT3:=Hh T1;have HB3:=Hh hB3;have HN3:=Hh hN3;clear T1 hB3 hN3 o' g' sn' hT hN hB FW hsw hO2 hu;go_wp2;go_roundw
   case rel => exact ⟨q+1,by omega,by go_num,HT3,HN3,HB3⟩
   case measure => simp [intOf] <;> omega
  ·obtain rfl:q=xh.length:=by omega
   rw [List.take_length] at hT;obtain ⟨wo,hwo⟩:∃ x,x=wr:=⟨_,rfl⟩
   subst hwo;obtain ⟨P,hP⟩:∃ P,xh.map (·.t)=P:=⟨_,rfl⟩
   rw [hP] at hT;have hPl:P.length=xh.length:=(by rw [← hP,List.length_map])
   have HP:=Hh hP;have T2:Hid (TmsAt w w wo (.slice none 0 0) u3 (P++(xb.take 0).flatMap Lt.tms)):=(by simpa using hT)
   clear hP hT FW T0 N0 B0;go_wp2_with fail;go_loopw [3,5] (fun u i wr => ∃ q:Nat,q≤xb.length∧i = .int .i64 q∧Hid (TmsAt w w wr (.slice none 0 0) u (P++(xb.take q).flatMap Lt.tms))∧Hid (∀ j,u.ownBlock=some j→j≠w.heap.size)∧Hid (wr.heap[w.heap.size]?=some (.cells #[.string p,.slice Ah xh.length ch,.slice Ab xb.length cb] 82 (0,0)))) (fun _ i _ => xb.length - (intOf i).toNat)
   case atStart => exact ⟨0,Nat.zero_le _,rfl,T2,hN,hB⟩
   case round =>
    clear hN hB y1 T2;obtain ⟨q,hq,rfl,hT,hN,hB⟩:=hrel;have y2:=cell_at hB.out 2 _ rfl;have FW:=Hh (hT.out.fut (Fut.refl w) HO.out)
    by_cases hlt:q<xb.length
    ·have hltI:(q:Int)<xb.length:=by omega
     have e0:(0:Int)≤q∧(q:Int)<xb.length:=by omega
     have htk:=Hh (ltms_take hlt);have hle:=ltms_le hlt;obtain ⟨b',off,cs,rfl,hr,hl6,hcs⟩:=sl_rowR H2.out hlt;have hcs9:=Hh (fun j v hj => FW.out.cell (hcs j v hj));have hi6:(Tryz.prog.info? 120).map (·.size)=some cs.length:=by rw [hl6];exact infoLtN
     obtain ⟨M,hM⟩:∃ M,P++(xb.take q).flatMap Lt.tms=M:=⟨_,rfl⟩
     have hMl:M.length+xb[q].tms.length≤1000000000:=(by have:=HL.out;rw [← hM,List.length_append];omega)
     rw [hM] at hT;replace hM:=Hh hM;generalize xb[q]=z at *;obtain ⟨Au,cu,rfl,_,_⟩:=hT.out.1.rep.form;have HC:=Hh (rlts_any z cs w wr Au _ cu M hr FW.out hT.out.1 hMl);clear hcs hr hle hMl;go_wp2_with (first|(show wpList _ _ _ (Oper.mk _ (Op.load 120 _) _ _ _ _ :: _) _ _;refine Go.wpList_load_mid rfl _ _ rfl b' (off+q * 16) rfl cs _ hcs9.out Tryz.underlying120 rfl hi6 ?_));refine HC.out.mono ?_;rintro e w3 ⟨v3,rfl,T3⟩;obtain ⟨hB3,hN3⟩:=T3.keep hB.out hN.out;have hT3:=hT.out.trans T3;rw [← hM.out,List.append_assoc,← htk.out] at hT3;have HT3:=Hh hT3;have HB3:=Hh hB3;have HN3:=Hh hN3;clear T3 HC hT hN hB FW hcs9 hT3 hB3 hN3 hM;go_wp2;go_roundw
     case rel => exact ⟨q+1,by omega,by go_num,HT3,HN3,HB3⟩
     case measure => simp [intOf] <;> omega
    ·obtain rfl:q=xb.length:=by omega
     rw [List.take_length,← HP.out] at hT;clear hN hB;go_wp2;go_ret;exact ⟨_,rfl,hT.out.1,FW.out⟩
end Go.Proofs.YtobabnpllokkaaaGreatDoor
namespace Go.Proofs.YtobabnpllokkaaaGreatDoor
open Go.RowKit
set_option maxHeartbeats 2000000 in
set_option maxRecDepth 100000 in
theorem rruleVars_any (x:Ru) (Ah Ab:Option Addr) (ch cb:Nat) (w:World) (h1:SlRep 5 2513169434916 RAr w (.slice Ah x.h.length ch) x.h) (h2:SlRep 16 651562446089 RLt w (.slice Ab x.b.length cb) x.b) (hl:x.tms.length≤1000000000) :
    Calls Tryz.prog 208 #[.agg #[.string x.p,.slice Ah x.h.length ch,.slice Ab x.b.length cb]] w fun e w' => ∃ v,e = .returned v∧Nms w.heap.size w' v x.vars∧Fut w w':=by
 have hv:tmVars x.tms=x.vars:=by unfold tmVars Ru.vars;rw [Ru.tms_vs]
 have f0:=Hh (Fut.alloc w (.cells #[.string x.p,.slice Ah x.h.length ch,.slice Ab x.b.length cb] 82));have hbx:=heap_alloc_new w (.cells #[.string x.p,.slice Ah x.h.length ch,.slice Ab x.b.length cb] 82);have x0:=cell_at hbx 0 _ rfl;have x1:=cell_at hbx 1 _ rfl;have x2:=cell_at hbx 2 _ rfl;have HR:=Hh (fun W (hW:Fut w W) => rrts_any x Ah Ab ch cb W (h1.fut RAr.stays hW) (h2.fut RLt.stays hW) hl);have HL:=Hh hl;have HV:=Hh hv;clear h1 h2 hl hbx hv;go_enter Tryz.func208,Tryz.ntmps208;go_wp2_with fail;refine (HR.out _ f0.out).mono ?_;rintro e w1 ⟨v1,rfl,o1,f1⟩;obtain ⟨Au,cu,rfl,_,_⟩:=o1.rep.form;have F1:=Hh (f0.out.trans f1);have HC:=Hh (rvars_any Au cu x.tms w1 o1.rep (by decide) HL.out);clear o1 f1;go_wp2_with fail;refine HC.out.mono ?_;rintro e w2 ⟨v2,rfl,o2,f2⟩;rw [HV.out] at o2;have hs:=F1.out.size;go_wp2;go_ret;exact ⟨_,rfl,o2.base hs,F1.out.trans f2⟩
end Go.Proofs.YtobabnpllokkaaaGreatDoor
namespace Go.Proofs.YtobabnpllokkaaaGreatDoor
open Go.RowKit Go.WideMaps Go.Maps
set_option maxHeartbeats 2000000 in
set_option maxRecDepth 100000 in
theorem rrule_any (x:Ru) (Ah Ab:Option Addr) (ch cb:Nat) (w:World) (hp:x.p.size≤140737488351232) (h1:SlRep 5 2513169434916 RAr w (.slice Ah x.h.length ch) x.h) (h2:SlRep 16 651562446089 RLt w (.slice Ab x.b.length cb) x.b) (hl:x.hs.length+x.bs.length≤1000000000) :
    Calls Tryz.prog 294 #[.agg #[.string x.p,.slice Ah x.h.length ch,.slice Ab x.b.length cb]] w fun e w' => e = .returned (.bool x.good)∧Fut w w':=by
 have hl':x.tms.length≤1000000000:=(by
  have h9:(x.tms.map (·.v)).length=(x.hs++x.bs).length:=by rw [Ru.tms_vs]
  rw [List.length_map,List.length_append] at h9;omega)
 have hnv:nameV x.p=nameT x.p:=by rw [nameV_eq,Bool.and_comm];rfl
 have HN:=Hh (fun W => rname_any x.p W hp);rw [hnv] at HN;clear hnv;have HV:=Hh (fun W (hW:Fut w W) => rruleVars_any x Ah Ab ch cb W (h1.fut RAr.stays hW) (h2.fut RLt.stays hW) hl');have hh:=h1.len;have hb:=h2.len;have H1:=Hh h1;have H2:=Hh h2;obtain ⟨b,hgb⟩:∃ b,x.good=b:=⟨_,rfl⟩
 rw [hgb];unfold Ru.good at hgb;clear h1 h2 hl hl';obtain ⟨nm,hnm⟩:∃ nm,nameT x.p=nm:=⟨_,rfl⟩
 rw [hnm] at HN hgb;clear hnm;generalize x.vars=vars at *;obtain ⟨p,xh,xb⟩:=x;dsimp only at *;have hbx:=heap_alloc_new w (.cells #[.string p,.slice Ah xh.length ch,.slice Ab xb.length cb] 82);have FB:=Hh (Fut.alloc w (.cells #[.string p,.slice Ah xh.length ch,.slice Ab xb.length cb] 82));replace hgb:=Hh hgb;cases nm
 ·obtain rfl:b=false:=by rw [← hgb.out];simp
  go_enter Tryz.func294,Tryz.ntmps294;go_wp2_with fail;refine (HN.out _).mono ?_;rintro e w1 ⟨rfl,f1⟩;go_wp2;go_ret;exact ⟨by first|rfl|simp,FB.out.trans f1⟩
 by_cases hlh:xh.length≤24
 rotate_left
 ·obtain rfl:b=false:=by rw [← hgb.out];simp [hlh]
  have hlI:(xh.length:Int) > 24:=by omega
  go_enter Tryz.func294,Tryz.ntmps294;go_wp2_with fail;refine (HN.out _).mono ?_;rintro e w1 ⟨rfl,f1⟩;have y1:=cell_at (f1.block hbx) 1 (.slice Ah xh.length ch) rfl;go_wp2;go_ret;exact ⟨by first|rfl|simp,FB.out.trans f1⟩
 by_cases hlb:xb.length≤16
 rotate_left
 ·obtain rfl:b=false:=by rw [← hgb.out];simp [hlb]
  have hlI:¬ (xh.length:Int) > 24:=by omega
  have hlJ:(xb.length:Int) > 16:=by omega
  have hlN:¬ 24<xh.length:=by omega
  go_enter Tryz.func294,Tryz.ntmps294;go_wp2_with fail;refine (HN.out _).mono ?_;rintro e w1 ⟨rfl,f1⟩;have y1:=cell_at (f1.block hbx) 1 (.slice Ah xh.length ch) rfl;have y2:=cell_at (f1.block hbx) 2 (.slice Ab xb.length cb) rfl;go_wp2;go_ret;exact ⟨by first|rfl|simp,FB.out.trans f1⟩
 have hlI:¬ (xh.length:Int) > 24:=by omega
 have hlJ:¬ (xb.length:Int) > 16:=by omega
 have hlN:¬ 24<xh.length:=by omega
 have hlM:¬ 16<xb.length:=by omega
 replace hgb:=Hh (show (xh.all Ar.good && xb.all Lt.good && decide (vars.length≤24))=b by rw [← hgb.out];simp [hlh,hlb]);go_enter Tryz.func294,Tryz.ntmps294;go_wp2_with fail;refine (HN.out _).mono ?_;rintro e w1 ⟨rfl,f1⟩;have y1:=cell_at (f1.block hbx) 1 (.slice Ah xh.length ch) rfl;have y2:=cell_at (f1.block hbx) 2 (.slice Ab xb.length cb) rfl;have HB:=Hh (f1.block hbx);have F1:=Hh (FB.out.trans f1);clear f1 hbx;go_wp2_with fail;go_loopw [3] (fun i wr => ∃ k:Nat,k≤xh.length∧i = .int .i64 k∧Hid (Fut w wr)∧Hid (Fut w1 wr)∧Hid (∀ y ∈ xh.take k,y.good=true)) (fun i _ => xh.length - (intOf i).toNat)
 case atStart => exact ⟨0,Nat.zero_le _,rfl,F1,Hh (Fut.refl _),Hh (fun y hy => by simp at hy)⟩
 case round =>
  obtain ⟨k,hk,rfl,hF,hG,hA⟩:=hrel;have z1:=cell_at (hG.out.block HB.out) 1 (.slice Ah xh.length ch) rfl
  by_cases hlt:k<xh.length
  ·have hltI:(k:Int)<xh.length:=by omega
   have e0:(0:Int)≤k∧(k:Int)<xh.length:=by omega
   obtain ⟨b',off,rfl,_,hok,u0,u1,u2,u3,u4⟩:=ar_at (H1.out.fut RAr.stays hF.out) hlt;have hnx:=Hh (List.take_succ_eq_append_getElem hlt);have hmem:=Hh (List.getElem_mem hlt);generalize xh[k]=z at *;have HC:=Hh (fun W => rargument_any z W hok);obtain ⟨d,hd⟩:∃ d,z.good=d:=⟨_,rfl⟩
   simp only [hd] at HC;replace hd:=Hh hd;cases d
   ·obtain rfl:b=false:=by
      rw [← hgb.out];have h9:xh.all Ar.good=false:=List.all_eq_false.2 ⟨z,hmem.out,by rw [hd.out];decide⟩;rw [h9];rfl
    go_wp2_with fail;refine (HC.out _).mono ?_;rintro e w3 ⟨rfl,f3⟩;go_wp2;go_ret;exact ⟨by first|rfl|simp,hF.out.trans f3⟩
   ·go_wp2_with fail;refine (HC.out _).mono ?_;rintro e w3 ⟨rfl,f3⟩;have HF3:=Hh (hF.out.trans f3);have HG3:=Hh (hG.out.trans f3)
    have HA3:Hid (∀ y ∈ xh.take (k+1),y.good=true):=Hh fun y hy => by
     rw [hnx.out,List.mem_append] at hy;rcases hy with hy|hy
     ·exact hA.out y hy
     ·rw [List.mem_singleton] at hy;subst hy;exact hd.out
    clear f3;go_wp2;go_roundw
    case rel => exact ⟨k+1,by omega,by go_num,HF3,HG3,HA3⟩
    case measure => simp [intOf] <;> omega
  ·obtain rfl:k=xh.length:=by omega
   obtain ⟨wo,hwo⟩:∃ x,x=wr:=⟨_,rfl⟩
   subst hwo;rw [List.take_length] at hA;have hall:xh.all Ar.good=true:=List.all_eq_true.2 hA.out;replace hgb:=Hh (show (xb.all Lt.good && decide (vars.length≤24))=b by rw [← hgb.out,hall];rfl);have z1:=cell_at (hG.out.block HB.out) 2 (.slice Ab xb.length cb) rfl;have HBw:=Hh (hG.out.block HB.out);have HFw:=Hh hF.out;clear hG hA hall F1 HB hF;go_wp2_with fail;go_loopw [4] (fun i W => ∃ k:Nat,k≤xb.length∧i = .int .i64 k∧Hid (Fut w W)∧Hid (Fut wo W)∧Hid (∀ y ∈ xb.take k,y.good=true)) (fun i _ => xb.length - (intOf i).toNat)
   case atStart => exact ⟨0,Nat.zero_le _,rfl,HFw,Hh (Fut.refl _),Hh (fun y hy => by simp at hy)⟩
   case round =>
    obtain ⟨k,hk,rfl,hF,hG,hA⟩:=hrel;have z2:=cell_at (hG.out.block HBw.out) 2 (.slice Ab xb.length cb) rfl
    by_cases hlt:k<xb.length
    ·have hltI:(k:Int)<xb.length:=by omega
     have e0:(0:Int)≤k∧(k:Int)<xb.length:=by omega
     obtain ⟨b',off,cs,rfl,hr,hl6,hcs⟩:=sl_rowR (H2.out.fut RLt.stays hF.out) hlt;have hcs9:=Hh hcs;have hi6:(Tryz.prog.info? 120).map (·.size)=some cs.length:=by rw [hl6];exact infoLtN
     have hnx:=Hh (List.take_succ_eq_append_getElem hlt);have hmem:=Hh (List.getElem_mem hlt);generalize xb[k]=z at *;have HC:=Hh (rliteral_any z cs wr hr);obtain ⟨d,hd⟩:∃ d,z.good=d:=⟨_,rfl⟩
     simp only [hd] at HC;replace hd:=Hh hd;clear hcs hr;cases d
     ·obtain rfl:b=false:=by
        rw [← hgb.out];have h9:xb.all Lt.good=false:=List.all_eq_false.2 ⟨_,hmem.out,by rw [hd.out];decide⟩;rw [h9];rfl
      go_wp2_with (first|(show wpList _ _ _ (Oper.mk _ (Op.load 120 _) _ _ _ _ :: _) _ _;refine Go.wpList_load_mid rfl _ _ rfl b' (off+k * 16) rfl cs _ hcs9.out Tryz.underlying120 rfl hi6 ?_));refine HC.out.mono ?_;rintro e w3 ⟨rfl,f3⟩;go_wp2;go_ret;exact ⟨by first|rfl|simp,hF.out.trans f3⟩
     ·go_wp2_with (first|(show wpList _ _ _ (Oper.mk _ (Op.load 120 _) _ _ _ _ :: _) _ _;refine Go.wpList_load_mid rfl _ _ rfl b' (off+k * 16) rfl cs _ hcs9.out Tryz.underlying120 rfl hi6 ?_));refine HC.out.mono ?_;rintro e w3 ⟨rfl,f3⟩;have HF3:=Hh (hF.out.trans f3);have HG3:=Hh (hG.out.trans f3)
      have HA3:Hid (∀ y ∈ xb.take (k+1),y.good=true):=Hh fun y hy => by
       rw [hnx.out,List.mem_append] at hy;rcases hy with hy|hy
       ·exact hA.out y hy
       ·rw [List.mem_singleton] at hy;subst hy;exact hd.out
      clear f3;go_wp2;go_roundw
      case rel => exact ⟨k+1,by omega,by go_num,HF3,HG3,HA3⟩
      case measure => simp [intOf] <;> omega
    ·obtain rfl:k=xb.length:=by omega
     rw [List.take_length] at hA;have hall:xb.all Lt.good=true:=List.all_eq_true.2 hA.out;replace hgb:=Hh (show decide (vars.length≤24)=b by rw [← hgb.out,hall];rfl);have hb1:=hG.out.block HBw.out;have z0:=cell_at hb1 0 (.string p) rfl;have z1:=cell_at hb1 1 (.slice Ah xh.length ch) rfl;have z2:=cell_at hb1 2 (.slice Ab xb.length cb) rfl;clear hb1 hA hall;go_wp2_with fail;refine (HV.out _ hF.out).mono ?_;rintro e w3 ⟨v,rfl,hv,f3⟩;obtain ⟨A3,c3,rfl,_,_⟩:=hv.rep.form;have HF3:=Hh (hF.out.trans f3);clear hv f3;generalize vars.length=nv at *
     by_cases hnv:nv≤24
     ·obtain rfl:b=true:=by rw [← hgb.out];simp [hnv]
      have hnI:(nv:Int)≤24:=by omega
      go_wp2;go_ret;exact ⟨by first|rfl|simp,HF3.out⟩
     ·obtain rfl:b=false:=by rw [← hgb.out];simp [hnv]
      have hnI:¬ (nv:Int)≤24:=by omega
      go_wp2;go_ret;exact ⟨by first|rfl|(simp;done)|(simp;omega),HF3.out⟩
end Go.Proofs.YtobabnpllokkaaaGreatDoor
namespace Go.Proofs.YtobabnpllokkaaaGreatDoor
open Go.RowKit Go.WideMaps Go.Maps
set_option maxHeartbeats 400000 in
theorem rsaid_any (b:Bool) (w:World):Calls Tryz.prog 293 #[.bool b] w fun e w' => e = .returned (.int .i64 (if b then 0 else 40))∧w'=w:=by
 cases b
 ·go_enter Tryz.func293,Tryz.ntmps293;go_wp2;go_ret;exact ⟨rfl,rfl⟩
 ·go_enter Tryz.func293,Tryz.ntmps293;go_wp2;go_ret;exact ⟨rfl,rfl⟩
set_option maxHeartbeats 1000000 in
theorem rcheckR_any (x:Ru) (Ah Ab:Option Addr) (ch cb:Nat) (w:World) (hp:x.p.size≤140737488351232) (h1:SlRep 5 2513169434916 RAr w (.slice Ah x.h.length ch) x.h) (h2:SlRep 16 651562446089 RLt w (.slice Ab x.b.length cb) x.b) (hl:x.hs.length+x.bs.length≤1000000000) :
    Calls Tryz.prog 260 #[.agg #[.string x.p,.slice Ah x.h.length ch,.slice Ab x.b.length cb]] w fun e w' => e = .returned (.int .i64 (if x.good=true then 0 else 40))∧Fut w w':=by
 have f0:=Hh (Fut.alloc w (.cells #[.string x.p,.slice Ah x.h.length ch,.slice Ab x.b.length cb] 82));have HR:=Hh (fun W (hW:Fut w W) => rrule_any x Ah Ab ch cb W hp (h1.fut RAr.stays hW) (h2.fut RLt.stays hW) hl);have hbx:=heap_alloc_new w (.cells #[.string x.p,.slice Ah x.h.length ch,.slice Ab x.b.length cb] 82);have x0:=cell_at hbx 0 _ rfl;have x1:=cell_at hbx 1 _ rfl;have x2:=cell_at hbx 2 _ rfl;clear h1 h2 hl hbx hp;generalize x.good=g at *;generalize x.h.length=n at *;generalize x.b.length=m at *;generalize x.p=p at *;have HS:=Hh (fun W => rsaid_any g W);obtain ⟨q,hq⟩:∃ q:Int,(if g=true then 0 else 40)=q:=⟨_,rfl⟩
 rw [hq] at HS ⊢;clear hq;go_enter Tryz.func260,Tryz.ntmps260;go_wp2_with fail;refine (HR.out _ f0.out).mono ?_;rintro e w1 ⟨rfl,f1⟩;go_wp2_with fail;refine (HS.out _).mono ?_;rintro e w2 ⟨rfl,rfl⟩;go_wp2;go_ret;exact ⟨rfl,f0.out.trans f1⟩
set_option maxHeartbeats 1000000 in
theorem ratomVars_any (p:ByteArray) (A:Option Addr) (c M:Nat) (ts:List Tm) (w:World) (h:SlRep 4 M RTm w (.slice A ts.length c) ts) (hM:M≤9223372036854775807) (hl:ts.length≤1000000000) :
    Calls Tryz.prog 265 #[.agg #[.string p,.slice A ts.length c]] w fun e w' => ∃ v,e = .returned v∧Nms w.heap.size w' v (tmVars ts)∧Fut w w':=by
 have hb:=heap_alloc_new w (.cells #[.string p,.slice A ts.length c] 108);have f0:=Fut.alloc w (.cells #[.string p,.slice A ts.length c] 108);have hs:(w.alloc (.cells #[.string p,.slice A ts.length c] 108)).heap.size=w.heap.size+1:=by simp
 have HV:=Hh (rvars_any A c ts (w.alloc (.cells #[.string p,.slice A ts.length c] 108)) (h.fut RTm.stays f0) hM hl);have y1:=cell_at hb 1 _ rfl;rw [hs] at HV;clear h hb hs;replace f0:=Hh f0;generalize ts.length=n at *;go_enter Tryz.func265,Tryz.ntmps265;go_wp2_with fail;refine HV.out.mono ?_;rintro e w1 ⟨v,rfl,h1,f1⟩;have H1:=Hh (And.intro (h1.base (Nat.le_succ _)) (f0.out.trans f1));clear h1 f1;go_wp2;go_ret;exact ⟨_,rfl,H1.out⟩
set_option maxHeartbeats 1000000 in
theorem rexprVars_any (x:Ex) (cs:List Value) (n:Nat) (w:World) (h:RE n w cs x) (hl:x.size≤1000000000) :
    Calls Tryz.prog 327 #[.agg cs.toArray] w fun e w' => ∃ v,e = .returned v∧Nms w.heap.size w' v x.vars∧Fut w w':=by
 have hl2:x.tms.length≤1000000000:=by rw [Ex.tms_len];exact hl
 have hv:tmVars x.tms=x.vars:=by unfold tmVars Ex.vars;rw [Ex.tms_vs]
 have H:=Hh h;obtain ⟨m,op,⟨tv,⟨xk,xn,xs⟩⟩,ks,A1,c1,hm,rfl,rfl,hc1,hc2,hks⟩:=ex_form h;dsimp only at *;have hbx:=heap_alloc_new w (.cells #[.int .i8 op,.string tv,.int .i8 xk,.int .i64 xn,.string xs,.slice A1 ks.length c1] 118);have f0:=Fut.alloc w (.cells #[.int .i8 op,.string tv,.int .i8 xk,.int .i64 xn,.string xs,.slice A1 ks.length c1] 118);have hs:(w.alloc (.cells #[.int .i8 op,.string tv,.int .i8 xk,.int .i64 xn,.string xs,.slice A1 ks.length c1] 118)).heap.size=w.heap.size+1:=by simp
 have HR:=Hh (rets_any n _ _ w (w.alloc (.cells #[.int .i8 op,.string tv,.int .i8 xk,.int .i64 xn,.string xs,.slice A1 ks.length c1] 118)) none 0 0 [] H.out f0 OwnL.nil (by simpa using hl2));have HB:=Hh (block_range (cs:=[.int .i8 op,.string tv,.int .i8 xk,.int .i64 xn,.string xs,.slice A1 ks.length c1]) hbx);have hi6:(Tryz.prog.info? 118).map (·.size)=some [Value.int .i8 op,.string tv,.int .i8 xk,.int .i64 xn,.string xs,.slice A1 ks.length c1].length:=infoEx6';have F0:=Hh f0;have HL:=Hh hl2;have HV:=Hh hv;clear h hl hl2 hbx hs f0 hv hks hc1 hc2;go_enter Tryz.func327,Tryz.ntmps327;go_wp2_with (first|(show wpList _ _ _ (Oper.mk _ (Op.load 118 _) _ _ _ _ :: _) _ _;refine Go.wpList_load_mid rfl _ _ rfl w.heap.size 0 rfl [.int .i8 op,.string tv,.int .i8 xk,.int .i64 xn,.string xs,.slice A1 ks.length c1] _ HB.out Tryz.underlying118 rfl hi6 ?_));refine HR.out.mono ?_;rintro e w1 ⟨v1,rfl,T1⟩;have F1:=T1.fut F0.out OwnL.nil;have O1:=T1.1;rw [List.nil_append] at O1;obtain ⟨Au,cu,rfl,_,_⟩:=O1.rep.form;have HC:=Hh (rvars_any Au cu _ w1 O1.rep (by decide) HL.out);rw [HV.out] at HC;have hs1:=F1.size;replace F1:=Hh F1;clear T1 O1 HR;generalize (Ex.mk op ⟨tv,⟨xk,xn,xs⟩⟩ ks).tms.length=q at *;go_wp2_with fail;refine HC.out.mono ?_;rintro e w2 ⟨v2,rfl,o2,f2⟩;have H2:=Hh (And.intro (o2.base hs1) (F1.out.trans f2));clear o2 f2;go_wp2;go_ret;exact ⟨_,rfl,H2.out⟩
end Go.Proofs.YtobabnpllokkaaaGreatDoor
namespace Go.Proofs.YtobabnpllokkaaaGreatDoor
open Go.RowKit Go.WideMaps Go.Maps
theorem addVar_sub {L:List ByteArray} {v x:ByteArray} (h:x ∈ L):x ∈ addVar L v:=by
 unfold addVar
 split
 ·exact h
 ·split
  ·exact h
  ·split
   ·exact h
   ·exact List.mem_append_left _ h
theorem foldV_sub:∀ (vs L:List ByteArray) {x:ByteArray},x ∈ L→x ∈ vs.foldl addVar L
 | [],_,_,h => h
 | v :: r,L,_,h => foldV_sub r _ (addVar_sub h)
theorem foldV_new:∀ (vs L:List ByteArray) {x:ByteArray},x ∈ vs→x.toList≠[]→x.toList≠[95]→x ∈ vs.foldl addVar L
 | [],_,_,h,_,_ => by cases h
 | v :: r,L,x,h,h1,h2 => by
  rcases List.mem_cons.1 h with rfl|h
  ·refine foldV_sub r _ ?_;unfold addVar;rw [if_neg h1,if_neg h2]
   split
   ·assumption
   ·simp
  ·exact foldV_new r _ h h1 h2
theorem ba0:(⟨#[]⟩:ByteArray).toList=[]:=by rw [ByteArray.toList_eq]
theorem Ex.lone_vars (e:Ex) (h:e.lone.toList≠[]):e.lone ∈ e.vars:=by
 unfold Ex.lone at *
 split at h
 ·rename_i h1;rw [if_pos h1];refine foldV_new _ _ ?_ h h1.2.2;obtain ⟨op,t,ks⟩:=e;simp [Ex.vs,Ex.t]
 ·exact absurd ba0 h
def Eqn.wf (q:Eqn):Prop:=(q.l.toList≠[]→q.l ∈ q.ls)∧(q.r.toList≠[]→q.r ∈ q.rs)
theorem Lt.eqn_wf (x:Lt):x.eqn.wf:=⟨Ex.lone_vars _,Ex.lone_vars _⟩
theorem allIn_iff {L vs:List ByteArray}:allIn L vs=true↔∀ v ∈ vs,v ∈ L:=by
 unfold allIn;rw [List.all_eq_true];exact ⟨fun h v hv => of_decide_eq_true (h v hv),fun h v hv => decide_eq_true (h v hv)⟩
def Inert (q:Eqn) (L:List ByteArray):Prop:=∀ L',(∀ x ∈ L,x ∈ L')→q.takes L'=(false,L')
theorem Inert.mono {q:Eqn} {L L':List ByteArray} (h:Inert q L) (hs:∀ x ∈ L,x ∈ L'):Inert q L':=fun L'' h2 => h L'' fun x hx => h2 x (hs x hx)
theorem takes_sub (q:Eqn) (L:List ByteArray):∀ x ∈ L,x ∈ (q.takes L).2:=fun x hx => by
 unfold Eqn.takes
 split
 ·exact List.mem_append_left _ hx
 ·split
  ·exact List.mem_append_left _ hx
  ·exact hx
theorem takes_false {q:Eqn} {L:List ByteArray} (h:(q.takes L).1=false):q.takes L=(false,L):=by
 unfold Eqn.takes at *
 split at h
 ·cases h
 ·split at h
  ·cases h
  ·rename_i h1 h2;rw [if_neg h1,if_neg h2]
theorem takes_len {q:Eqn} {L:List ByteArray} (h:(q.takes L).1=true):(q.takes L).2.length=L.length+1:=by
 unfold Eqn.takes at *
 split at h
 ·rename_i h1;rw [if_pos h1];simp
 ·rename_i h1;rw [if_neg h1]
  split at h
  ·rename_i h2;rw [if_pos h2];simp
  ·cases h
theorem takes_inert {q:Eqn} {L:List ByteArray} (hw:q.wf) (h:(q.takes L).1=true):Inert q (q.takes L).2:=by
 intro L' hs;unfold Eqn.takes at h hs;unfold Eqn.takes
 by_cases h1:q.l.toList≠[]∧q.l ∉ L∧allIn L q.rs=true
 ·rw [if_pos h1] at h hs;have e1:q.l ∈ L':=hs _ (by simp);rw [if_neg (fun h9 => h9.2.1 e1),if_neg];intro h9;exact h9.2.1 (hs _ (List.mem_append_left _ (allIn_iff.1 h1.2.2 _ (hw.2 h9.1))))
 ·rw [if_neg h1] at h hs
  by_cases h2:q.r.toList≠[]∧q.r ∉ L∧allIn L q.ls=true
  ·rw [if_pos h2] at h hs;have e1:q.r ∈ L':=hs _ (by simp);rw [if_neg,if_neg (fun h9 => h9.2.1 e1)];intro h9;exact h9.2.1 (hs _ (List.mem_append_left _ (allIn_iff.1 h2.2.2 _ (hw.1 h9.1))))
  ·rw [if_neg h2] at h;cases h
inductive Thin (L:List ByteArray):List Eqn→List Eqn→Prop
 | nil:Thin L [] []
 | keep {q E qs}:Thin L E qs→Thin L (q :: E) (q :: qs)
 | drop {q E qs}:Inert q L→Thin L E qs→Thin L (q :: E) qs
theorem Thin.refl (L:List ByteArray):∀ E:List Eqn,Thin L E E
 | [] => .nil
 | _ :: r => .keep (Thin.refl L r)
def runE (E:List Eqn) (L:List ByteArray):List ByteArray:=E.foldl (fun L q => (q.takes L).2) L
theorem runE_sub:∀ (E:List Eqn) (L:List ByteArray),∀ x ∈ L,x ∈ runE E L
 | [],_,_,h => h
 | q :: r,L,x,h => runE_sub r _ x (takes_sub q L x h)
theorem Thin.round {L0:List ByteArray} {E qs:List Eqn} (h:Thin L0 E qs) (hw:∀ q ∈ E,q.wf):∀ (L:List ByteArray) (acc:List Eqn),(∀ x ∈ L0,x ∈ L)→(qs.foldl stepE (acc,L)).2=runE E L∧∃ qs',(qs.foldl stepE (acc,L)).1=acc++qs'∧Thin (runE E L) E qs'∧qs'.length+(runE E L).length=qs.length+L.length:=by
 induction h with
 | nil => exact fun L acc hs => ⟨rfl,[],by simp,.nil,rfl⟩
 | @keep q E qs h ih =>
  intro L acc hs;have ih:=ih (fun q hq => hw q (List.mem_cons_of_mem _ hq));show ((qs.foldl stepE (stepE (acc,L) q)).2=runE E (q.takes L).2)∧_;cases ht:(q.takes L).1 with
  | true =>
   have e1:stepE (acc,L) q=(acc,(q.takes L).2):=by unfold stepE;rw [if_pos ht]
   obtain ⟨g1,qs',g2,g3,g4⟩:=ih (q.takes L).2 acc (fun x hx => takes_sub q L x (hs x hx));rw [e1];refine ⟨g1,qs',?_,.drop ((takes_inert (hw q (List.mem_cons_self ..)) ht).mono (runE_sub E _)) g3,?_⟩
   ·rw [List.foldl_cons,e1];exact g2
   ·have:=takes_len ht;show qs'.length+(runE E (q.takes L).2).length=_;rw [List.length_cons];omega
  | false =>
   have e0:=takes_false ht;have e1:stepE (acc,L) q=(acc++[q],L):=by unfold stepE;rw [if_neg (by rw [ht];decide),e0]
   have e2:(q.takes L).2=L:=by rw [e0]
   obtain ⟨g1,qs',g2,g3,g4⟩:=ih L (acc++[q]) hs;have e3:runE (q :: E) L=runE E L:=by show runE E (q.takes L).2=_;rw [e2]
   rw [e1,e2,e3];refine ⟨g1,q :: qs',?_,.keep g3,?_⟩
   ·rw [List.foldl_cons,e1,g2];simp
   ·rw [List.length_cons,List.length_cons];omega
 | @drop q E qs hq h ih =>
  intro L acc hs;have ih:=ih (fun q hq => hw q (List.mem_cons_of_mem _ hq));have e2:(q.takes L).2=L:=by rw [hq L hs]
  have e3:runE (q :: E) L=runE E L:=by show runE E (q.takes L).2=_;rw [e2]
  rw [e3];obtain ⟨g1,qs',g2,g3,g4⟩:=ih L acc hs;exact ⟨g1,qs',g2,.drop (hq.mono fun x hx => runE_sub E L x (hs x hx)) g3,g4⟩
def takesD (L:List ByteArray) (x:Lt):List ByteArray:=if x.k=3∧x.r=1 then (x.eqn.takes L).2 else L
def roundD (b:List Lt) (L:List ByteArray):List ByteArray:=b.foldl takesD L
def isEq (x:Lt):Bool:=decide (¬ x.k=1∧x.k=3∧x.r=1)
def eqnsB (b:List Lt):List Eqn:=(b.filter isEq).map Lt.eqn
theorem eqnsB_wf (b:List Lt):∀ q ∈ eqnsB b,q.wf:=fun q hq => by
 obtain ⟨x,_,rfl⟩:=List.mem_map.1 hq;exact x.eqn_wf
theorem roundD_run:∀ (b:List Lt) (L:List ByteArray),roundD b L=runE (eqnsB b) L
 | [],L => rfl
 | x :: r,L => by
  show roundD r (takesD L x)=_;rw [roundD_run r];unfold takesD eqnsB;rw [List.filter_cons]
  by_cases h:x.k=3∧x.r=1
  ·have h1:isEq x=true:=decide_eq_true ⟨by rw [h.1];decide,h⟩;rw [if_pos h,if_pos h1];rfl
  ·have h1:¬ isEq x=true:=fun h9 => h (of_decide_eq_true h9).2;rw [if_neg h,if_neg h1]
def atomsD (b:List Lt):List ByteArray:=b.foldl (fun L x => if x.k=1 then (tmVars x.a).foldl addF L else L) []
theorem begin_at:∀ (b:List Lt) (s:List Eqn×List ByteArray),(b.foldl stepB s).1=s.1++eqnsB b∧(b.foldl stepB s).2=b.foldl (fun L x => if x.k=1 then (tmVars x.a).foldl addF L else L) s.2
 | [],s => by simp [eqnsB]
 | x :: r,s => by
  obtain ⟨h1,h2⟩:=begin_at r (stepB s x);rw [List.foldl_cons,h1,h2,List.foldl_cons];unfold stepB eqnsB;rw [List.filter_cons]
  by_cases c1:x.k=1
  ·have h1:¬ isEq x=true:=fun h9 => (of_decide_eq_true h9).1 c1;rw [if_pos c1,if_pos c1,if_neg h1];exact ⟨rfl,rfl⟩
  ·by_cases c2:x.k=3∧x.r=1
   ·have h1:isEq x=true:=decide_eq_true ⟨c1,c2⟩;rw [if_neg c1,if_neg c1,if_pos c2,if_pos h1];exact ⟨by simp,rfl⟩
   ·have h1:¬ isEq x=true:=fun h9 => c2 (of_decide_eq_true h9).2;rw [if_neg c1,if_neg c1,if_neg c2,if_neg h1];exact ⟨rfl,rfl⟩
theorem begin_eq (b:List Lt):beginB b=(eqnsB b,atomsD b):=by
 obtain ⟨h1,h2⟩:=begin_at b ([],[]);unfold beginB;exact Prod.ext (by rw [h1];rfl) h2
def LimD (b:List Lt) (L:List ByteArray) (n:Nat):Prop:=∃ qs,Thin L (eqnsB b) qs∧qs.length=n∧limitsB b=loopE (n+1) qs L
theorem LimD.start (b:List Lt):LimD b (atomsD b) (eqnsB b).length:=⟨eqnsB b,Thin.refl _ _,rfl,by unfold limitsB;rw [begin_eq]⟩
theorem LimD.round {b:List Lt} {L:List ByteArray} {n:Nat} (h:LimD b L n) :
    ∃ m,m+(roundD b L).length=n+L.length∧((roundD b L).length=L.length→roundD b L=limitsB b)∧(¬ (roundD b L).length=L.length→LimD b (roundD b L) m∧m<n):=by
 obtain ⟨qs,h1,rfl,h2⟩:=h;obtain ⟨g1,qs',g2,g3,g4⟩:=h1.round (eqnsB_wf b) L [] (fun x h => h);have e1:(roundE qs L).1=qs':=by unfold roundE;rw [g2];rfl
 have e2:(roundE qs L).2=roundD b L:=by rw [roundD_run];exact g1
 rw [roundD_run] at *;have hsub:=roundE_len qs L;rw [e1] at hsub;refine ⟨qs'.length,g4,fun he => ?_,fun hne => ?_⟩
 ·have h3:¬ (roundE qs L).1.length<qs.length:=by rw [e1];omega
  rw [h2,loopE_stop h3,e2]
 ·have h3:(roundE qs L).1.length<qs.length:=by rw [e1];omega
  refine ⟨⟨qs',g3,rfl,?_⟩,by rw [e1] at h3;exact h3⟩;rw [h2,loopE_go h3,e1,e2]
theorem eqnsB_len (b:List Lt):(eqnsB b).length≤b.length:=by
 unfold eqnsB;rw [List.length_map];exact List.length_filter_le _ _
theorem atomsD_len (b:List Lt):(atomsD b).length≤(b.flatMap Lt.vs).length:=by
 have h1:=(foldB_len b ([],[])).2;obtain ⟨_,h2⟩:=begin_at b ([],[]);rw [h2] at h1;simpa [atomsD] using h1
theorem atomsD_filter (b:List Lt):limitsB (b.filter isP)=atomsD b:=by
 have h0:∀ (b:List Lt) (L:List ByteArray),(b.filter isP).foldl (fun L x => if x.k=1 then (tmVars x.a).foldl addF L else L) L=b.foldl (fun L x => if x.k=1 then (tmVars x.a).foldl addF L else L) L:=by
  intro b
  induction b with
  | nil => intro L;rfl
  | cons x r ih =>
   intro L;rw [List.filter_cons,List.foldl_cons]
   by_cases c:x.k=1
   ·have h1:isP x=true:=decide_eq_true c;rw [if_pos h1,List.foldl_cons,ih]
   ·have h1:¬ isP x=true:=fun h => c (of_decide_eq_true h);rw [if_neg h1,ih,if_neg c]
 have h1:eqnsB (b.filter isP)=[]:=by
  unfold eqnsB;rw [List.filter_filter,List.map_eq_nil_iff,List.filter_eq_nil_iff];intro x _ h;rw [Bool.and_eq_true] at h;exact (of_decide_eq_true h.1).1 (of_decide_eq_true h.2)
 unfold limitsB;rw [begin_eq,h1];show loopE 1 [] (atomsD (b.filter isP))=_;have h2:atomsD (b.filter isP)=atomsD b:=h0 b [];rw [h2];rfl
set_option maxHeartbeats 2000000 in
set_option maxRecDepth 100000 in
theorem rlone_any (x:Ex) (A:Option Addr) (c:Nat) (w:World):Calls Tryz.prog 326 #[.agg #[.int .i8 x.op,.string x.t.v,.int .i8 x.t.x.k,.int .i64 x.t.x.n,.string x.t.x.s,.slice A x.kids.length c]] w fun e w' => e = .returned (.tuple #[.string x.lone,.bool (decide (x.lone.toList≠[]))])∧Fut w w':=by
 obtain ⟨s,hs⟩:∃ s,x.lone=s:=⟨_,rfl⟩
 rw [hs];unfold Ex.lone at hs;generalize x.kids.length=n at *;generalize x.op=o at *;generalize x.t=t at *;obtain ⟨tv,⟨xk,xn,xs⟩⟩:=t;dsimp only at *;have f0:=Fut.alloc w (.cells #[.int .i8 o,.string tv,.int .i8 xk,.int .i64 xn,.string xs,.slice A n c] 118)
 by_cases h1:o=0
 rotate_left
 ·rw [if_neg (fun h => h1 h.1)] at hs;subst hs;go_enter Tryz.func326,Tryz.ntmps326;go_wp2;refine bodyPost_ret (v:=.tuple #[.string ⟨#[]⟩,.bool false]) (by simp [results,Tryz.results326,go_sem]) rfl ?_;exact ⟨by rw [decide_eq_false (fun h => h ba0)],f0⟩
 subst h1
 by_cases h2:n=0
 rotate_left
 ·rw [if_neg (fun h => h2 h.2.1)] at hs;subst hs;have h3:((n:Int) == 0)=false:=by rw [beq_eq_false_iff_ne];omega
  go_enter Tryz.func326,Tryz.ntmps326;go_wp2;refine bodyPost_ret (v:=.tuple #[.string ⟨#[]⟩,.bool false]) (by simp [results,Tryz.results326,go_sem]) rfl ?_;exact ⟨by rw [decide_eq_false (fun h => h ba0)],f0⟩
 subst h2
 by_cases h5:tv.toList=[95]
 ·rw [if_neg (fun h => h.2.2 h5)] at hs;subst hs;have h6:(tv.toList == [95])=true:=by rw [h5];rfl
  have h7:(tv.toList == [])=false:=by rw [h5];rfl
  go_enter Tryz.func326,Tryz.ntmps326;go_wp2;refine bodyPost_ret (v:=.tuple #[.string ⟨#[]⟩,.bool false]) (by simp [results,Tryz.results326,go_sem]) rfl ?_;exact ⟨by rw [decide_eq_false (fun h => h ba0)],f0⟩
 ·rw [if_pos ⟨rfl,rfl,h5⟩] at hs;subst hs;have h6:(tv.toList == [95])=false:=by rw [beq_eq_false_iff_ne];exact h5
  by_cases h8:tv.toList=[]
  ·have h7:(tv.toList == [])=true:=by rw [h8];rfl
   have h9:tv=⟨#[]⟩:=by
    rw [ByteArray.toList_eq] at h8;exact ByteArray.ext (Array.toList_inj.1 (by simpa using h8))
   subst h9;go_enter Tryz.func326,Tryz.ntmps326;go_wp2;refine bodyPost_ret (v:=.tuple #[.string ⟨#[]⟩,.bool false]) (by simp [results,Tryz.results326,go_sem]) rfl ?_;exact ⟨by rw [decide_eq_false (fun h => h h8)],f0⟩
  ·have h7:(tv.toList == [])=false:=by rw [beq_eq_false_iff_ne];exact h8
   go_enter Tryz.func326,Tryz.ntmps326;go_wp2;refine bodyPost_ret (v:=.tuple #[.string tv,.bool true]) (by simp [results,Tryz.results326,go_sem]) rfl ?_;exact ⟨by rw [decide_eq_true h8],f0⟩
set_option maxHeartbeats 1000000 in
theorem rall_any {M M':Nat} (A A2:Option Addr) (c c2:Nat) (vs L:List ByteArray) (w:World) (hv:SlRep 1 M RNm w (.slice A vs.length c) vs) (hM:M≤9223372036854775807) (hL:SlRep 1 M' RNm w (.slice A2 L.length c2) L) (hM':M'≤9223372036854775807) :
    Calls Tryz.prog 207 #[.slice A vs.length c,.slice A2 L.length c2] w fun e w' => e = .returned (.bool (allIn L vs))∧w'=w:=by
 obtain ⟨b,hb⟩:∃ b,allIn L vs=b:=⟨_,rfl⟩
 rw [hb];replace hb:=Hh hb;obtain ⟨_,_,_,hl1,hl2⟩:=hv.form;have hxl:vs.length≤9223372036854775807:=by omega
 have HV:=Hh hv;have HL:=Hh (fun s => rin_any s A2 c2 L w hL hM');clear hv hL hl1 hl2;go_enter Tryz.func207,Tryz.ntmps207;go_wp2_with fail;go_loopw [5] (fun i wr => ∃ k:Nat,k≤vs.length∧i = .int .i64 k∧Hid (wr=w)∧Hid (∀ y ∈ vs.take k,y ∈ L)) (fun i _ => vs.length - (intOf i).toNat)
 case atStart => exact ⟨0,Nat.zero_le _,rfl,Hh rfl,Hh (fun y hy => by simp at hy)⟩
 case round =>
  obtain ⟨k,hk,rfl,hw,hA⟩:=hrel;obtain rfl:=hw.out
  by_cases hlt:k<vs.length
  ·have hltI:(k:Int)<vs.length:=by omega
   have e0:(0:Int)≤k∧(k:Int)<vs.length:=by omega
   obtain ⟨b',off,rfl,y0⟩:=nm_at HV.out hlt;have hmem:=Hh (List.getElem_mem hlt);have HT:=Hh (fun hx => allIn_take hlt hA.out hx);have HC:=Hh (HL.out vs[k]);generalize vs[k]=v at *
   by_cases e:v ∈ L
   ·rw [decide_eq_true e] at HC;have HA:=Hh (HT.out e);clear HT e;go_wp2_with fail;refine HC.out.mono ?_;rintro e w3 ⟨rfl,rfl⟩;go_wp2;go_roundw
    case rel => exact ⟨k+1,by omega,by go_num,(by first|exact Hh trivial|exact Hh rfl),HA⟩
    case measure => simp [intOf] <;> omega
   ·rw [decide_eq_false e] at HC
    obtain rfl:b=false:=by
     rw [← hb.out];exact List.all_eq_false.2 ⟨v,hmem.out,by simpa using e⟩
    clear HT e;go_wp2_with fail;refine HC.out.mono ?_;rintro e w3 ⟨rfl,rfl⟩;go_wp2;go_ret;exact ⟨rfl,rfl⟩
  ·obtain rfl:k=vs.length:=by omega
   rw [List.take_length] at hA
   obtain rfl:b=true:=by
    rw [← hb.out];exact List.all_eq_true.2 fun x hx => by simpa using hA.out x hx
   go_wp2;go_ret;exact ⟨rfl,rfl⟩
def givesB (x y:Ex) (L:List ByteArray):Bool:=decide (x.lone.toList≠[]) && !decide (x.lone ∈ L) && allIn L y.vars
set_option maxHeartbeats 2000000 in
set_option maxRecDepth 100000 in
theorem rgives_any {M n m:Nat} (x y:Ex) (cx cy:List Value) (A:Option Addr) (c:Nat) (L:List ByteArray) (w:World) (hx:RE n w cx x) (hy:RE m w cy y) (hs:y.size≤1000000000) (hL:SlRep 1 M RNm w (.slice A L.length c) L) (hM:M≤9223372036854775807) :
    Calls Tryz.prog 295 #[.agg cx.toArray,.agg cy.toArray,.slice A L.length c] w fun e w' => (∃ v,e = .returned (.tuple #[.string v,.bool (givesB x y L)])∧(givesB x y L=true→v=x.lone))∧Fut w w':=by
 obtain ⟨b,hb⟩:∃ b,givesB x y L=b:=⟨_,rfl⟩
 rw [hb];unfold givesB at hb;have HEV:=Hh (fun W (hW:Fut w W) => rexprVars_any y _ m W (RE.stays _ _ _ _ _ hW hy) hs);obtain ⟨yv,hyv⟩:∃ v,y.vars=v:=⟨_,rfl⟩
 rw [hyv] at hb HEV;clear hyv;obtain ⟨n1,op1,⟨tv1,⟨xk1,xn1,xs1⟩⟩,ks1,A1,c1,_,rfl,rfl,_,_,_⟩:=ex_form hx;obtain ⟨n2,op2,⟨tv2,⟨xk2,xn2,xs2⟩⟩,ks2,A2,c2,_,hy1,rfl,_,_,_⟩:=ex_form hy;have HLo:=Hh (fun W => rlone_any (Ex.mk op1 ⟨tv1,⟨xk1,xn1,xs1⟩⟩ ks1) A1 c1 W);dsimp only [Ex.op,Ex.t,Ex.kids] at *;generalize (Ex.mk op1 ⟨tv1,⟨xk1,xn1,xs1⟩⟩ ks1).lone=lo at *;subst hy1;have hb1:=heap_alloc_new w (.cells #[.int .i8 op1,.string tv1,.int .i8 xk1,.int .i64 xn1,.string xs1,.slice A1 ks1.length c1] 118);have hs1:(w.alloc (.cells #[.int .i8 op1,.string tv1,.int .i8 xk1,.int .i64 xn1,.string xs1,.slice A1 ks1.length c1] 118)).heap.size=w.heap.size+1:=by simp
 have f0:=Fut.alloc w (.cells #[.int .i8 op1,.string tv1,.int .i8 xk1,.int .i64 xn1,.string xs1,.slice A1 ks1.length c1] 118);have f1:=Fut.alloc (w.alloc (.cells #[.int .i8 op1,.string tv1,.int .i8 xk1,.int .i64 xn1,.string xs1,.slice A1 ks1.length c1] 118)) (.cells #[.int .i8 op2,.string tv2,.int .i8 xk2,.int .i64 xn2,.string xs2,.slice A2 ks2.length c2] 118);have hb2:=heap_alloc_new (w.alloc (.cells #[.int .i8 op1,.string tv1,.int .i8 xk1,.int .i64 xn1,.string xs1,.slice A1 ks1.length c1] 118)) (.cells #[.int .i8 op2,.string tv2,.int .i8 xk2,.int .i64 xn2,.string xs2,.slice A2 ks2.length c2] 118);rw [hs1] at hb2;have HX:=Hh (block_range (cs:=[.int .i8 op1,.string tv1,.int .i8 xk1,.int .i64 xn1,.string xs1,.slice A1 ks1.length c1]) (f1.block hb1));have HB2:=Hh hb2;have F01:=Hh (f0.trans f1);have hi6:∀ (o:Int) (tv:ByteArray) (xk xn:Int) (xs:ByteArray) (B:Option Addr) (q r:Nat),(Tryz.prog.info? 118).map (·.size)=some [Value.int .i8 o,.string tv,.int .i8 xk,.int .i64 xn,.string xs,.slice B q r].length:=fun _ _ _ _ _ _ _ _ => infoEx6';have HI6:=Hh hi6;have HIn:=Hh (fun W (hW:Fut w W) => rin_any lo A c L W (hL.fut RNm.stays hW) hM);have HAl:=Hh (fun (B:Option Addr) (q:Nat) (vs:List ByteArray) W (hv:SlRep 1 maxLen RNm W (.slice B vs.length q) vs) (hW:Fut w W) => rall_any B A q c vs L W hv (by decide) (hL.fut RNm.stays hW) hM);clear hx hy hs hL f0 f1 hb1 hb2 hs1 hi6
 by_cases c1:lo.toList=[]
 ·rw [decide_eq_false (fun h => h c1)] at HLo;obtain rfl:b=false:=by rw [← hb,decide_eq_false (fun h => h c1)];rfl
  go_enter Tryz.func295,Tryz.ntmps295;go_wp2_with (first|(show wpList _ _ _ (Oper.mk _ (Op.load 118 _) _ _ _ _ :: _) _ _;refine Go.wpList_load_mid rfl _ _ rfl w.heap.size 0 rfl _ _ HX.out Tryz.underlying118 rfl (HI6.out _ _ _ _ _ _ _ _) ?_));refine (HLo.out _).mono ?_;rintro e w1 ⟨rfl,f1⟩;go_wp2;refine bodyPost_ret (v:=.tuple #[.string ⟨#[]⟩,.bool false]) (by simp [results,Tryz.results295,go_sem]) rfl ?_;exact ⟨⟨_,rfl,fun h => nomatch h⟩,F01.out.trans f1⟩
 rw [decide_eq_true c1] at HLo hb;obtain ⟨d,hd⟩:∃ d,decide (lo ∈ L)=d:=⟨_,rfl⟩
 rw [hd] at HIn hb;clear hd c1;cases d
 rotate_left
 ·obtain rfl:b=false:=by rw [← hb];rfl
  go_enter Tryz.func295,Tryz.ntmps295;go_wp2_with (first|(show wpList _ _ _ (Oper.mk _ (Op.load 118 _) _ _ _ _ :: _) _ _;refine Go.wpList_load_mid rfl _ _ rfl w.heap.size 0 rfl _ _ HX.out Tryz.underlying118 rfl (HI6.out _ _ _ _ _ _ _ _) ?_));refine (HLo.out _).mono ?_;rintro e w1 ⟨rfl,f1⟩;go_wp2_with fail;refine (HIn.out _ (F01.out.trans f1)).mono ?_;rintro e w2 ⟨rfl,rfl⟩;go_wp2;refine bodyPost_ret (v:=.tuple #[.string ⟨#[]⟩,.bool false]) (by simp [results,Tryz.results295,go_sem]) rfl ?_;exact ⟨⟨_,rfl,fun h => nomatch h⟩,F01.out.trans f1⟩
 obtain rfl:b=allIn L yv:=by rw [← hb];simp
 clear hb;obtain ⟨b,hb⟩:∃ b,allIn L yv=b:=⟨_,rfl⟩
 rw [hb];replace hb:=Hh hb;go_enter Tryz.func295,Tryz.ntmps295;go_wp2_with (first|(show wpList _ _ _ (Oper.mk _ (Op.load 118 _) _ _ _ _ :: _) _ _;refine Go.wpList_load_mid rfl _ _ rfl w.heap.size 0 rfl _ _ HX.out Tryz.underlying118 rfl (HI6.out _ _ _ _ _ _ _ _) ?_));refine (HLo.out _).mono ?_;rintro e w1 ⟨rfl,f1⟩;have F1:=Hh (F01.out.trans f1);have HY:=Hh (block_range (cs:=[.int .i8 op2,.string tv2,.int .i8 xk2,.int .i64 xn2,.string xs2,.slice A2 ks2.length c2]) (f1.block HB2.out));clear f1;go_wp2_with fail;refine (HIn.out _ F1.out).mono ?_;rintro e w2 ⟨rfl,rfl⟩;go_wp2_with (first|(show wpList _ _ _ (Oper.mk _ (Op.load 118 _) _ _ _ _ :: _) _ _;refine wpList_loadG (by go_simp) _ _ rfl (w.heap.size+1) 0 rfl _ _ HY.out Tryz.underlying118 rfl (HI6.out _ _ _ _ _ _ _ _) ?_));refine (HEV.out _ F1.out).mono ?_;rintro e w3 ⟨v3,rfl,o3,f3⟩;obtain ⟨Au,cu,rfl,_,_⟩:=o3.rep.form;have F3:=Hh (F1.out.trans f3);have HC:=HAl.out Au cu yv w3 o3.rep F3.out;rw [hb.out] at HC;replace HC:=Hh HC;clear o3 f3 hb;go_wp2_with fail;refine HC.out.mono ?_;rintro e w4 ⟨rfl,rfl⟩;cases b
 ·go_wp2;refine bodyPost_ret (v:=.tuple #[.string ⟨#[]⟩,.bool false]) (by simp [results,Tryz.results295,go_sem]) rfl ?_;exact ⟨⟨_,rfl,fun h => nomatch h⟩,F3.out⟩
 ·go_wp2;refine bodyPost_ret (v:=.tuple #[.string lo,.bool true]) (by simp [results,Tryz.results295,go_sem]) rfl ?_
  first|exact ⟨⟨_,rfl,fun _ => rfl⟩,F3.out⟩|exact ⟨rfl,F3.out⟩
theorem atoms_len (b:List Lt) {k:Nat} (hk:k<b.length):(atomsD (b.take k)).length+(tmVars (b[k]).a).length≤(b.flatMap Lt.vs).length:=by
 have h1:=atomsD_len (b.take k);have h2:=bs_le hk;have h3:=ddVs_len ((b[k]).a.map (·.v));rw [List.length_map] at h3
 have h4:(Lt.vs b[k]).length=(b[k]).a.length+((b[k]).l.size+(b[k]).d.size):=by
  unfold Lt.vs;rw [List.length_append,List.length_append,List.length_map,Ex.vs_len,Ex.vs_len]
 have h5:(tmVars (b[k]).a).length≤(b[k]).a.length:=h3;omega
theorem args_len (b:List Lt) {k:Nat} (hk:k<b.length):(b[k]).a.length+(b[k]).l.size+(b[k]).d.size≤(b.flatMap Lt.vs).length:=by
 have h2:=bs_le hk
 have h4:(Lt.vs b[k]).length=(b[k]).a.length+((b[k]).l.size+(b[k]).d.size):=by
  unfold Lt.vs;rw [List.length_append,List.length_append,List.length_map,Ex.vs_len,Ex.vs_len]
 omega
def NmsAt (B:Nat) (W W':World) (lv v:Value) (L:List ByteArray):Prop :=
 Nms B W' v L∧Only (fun k => lv.ownBlock=some k∨W.heap.size≤k) W W'∧∀ k,v.ownBlock=some k→lv.ownBlock=some k∨W.heap.size≤k
theorem NmsAt.refl {B:Nat} {W:World} {lv:Value} {L:List ByteArray} (hO:Nms B W lv L):NmsAt B W W lv lv L:=⟨hO,Only.refl _,fun k hk => .inl hk⟩
theorem NmsAt.trans {B:Nat} {W W1 W2:World} {lv v1 v2:Value} {L1 L2:List ByteArray} (h:NmsAt B W W1 lv v1 L1) (k:NmsAt B W1 W2 v1 v2 L2):NmsAt B W W2 lv v2 L2:=by
 have hs:=h.2.1.size;refine ⟨k.1,h.2.1.then k.2.1 fun i hi hl => ?_,fun i hi => ?_⟩
 ·rcases hi with hi|hi
  ·exact h.2.2 i hi
  ·omega
 ·rcases k.2.2 i hi with e|e
  ·exact h.2.2 i e
  ·right;omega
theorem NmsAt.fut {B:Nat} {w0 W W':World} {lv v:Value} {L0 L:List ByteArray} (h:NmsAt B W W' lv v L) (hF:Fut w0 W) (hO:Nms B W lv L0) (hB:w0.heap.size≤B):Fut w0 W':=by
 have hs:=hF.size
 have h1:Only (fun k => w0.heap.size≤k) w0 W':=(Only.fut hF).trans (h.2.1.mono fun k _ hk => by
  rcases hk with hk|hk
  ·exact Nat.le_trans hB (hO.block k hk).1
  ·omega)
 exact h1.toFut fun k hk => hk
theorem NmsAt.more {B:Nat} {W W1 w':World} {lv v v':Value} {M L:List ByteArray} {o:Obj} (h:NmsAt B W W1 lv v M) (o':Nms B w' v' L) (g':(W1.alloc o).grownBy w' v.ownBlock) (sn':SameOrNew (W1.alloc o) v v'):NmsAt B W w' lv v' L :=
 h.trans ⟨o',(Only.fut (Fut.alloc W1 o)).then (Only.grown (S:=fun k => v.ownBlock=some k) g' fun k hk => hk) (fun i hi _ => .inl hi),fun k hk => by
  rcases sn' with e|e
  ·exact .inl (e ▸ hk)
  ·right
   have:=e k hk;rw [show (W1.alloc o).heap.size=W1.heap.size+1 by simp] at this;omega⟩
set_option maxHeartbeats 4000000 in
set_option maxRecDepth 100000 in
theorem ratoms_any {M:Nat} (A:Option Addr) (c:Nat) (xb:List Lt) (w:World) (h:SlRep 16 M RLt w (.slice A xb.length c) xb) (hM:M≤9223372036854775807) (hl:(xb.flatMap Lt.vs).length≤1000000000) :
    Calls Tryz.prog 209 #[.slice A xb.length c] w fun e w' => ∃ v,e = .returned v∧Nms w.heap.size w' v (atomsD xb)∧Fut w w':=by
 obtain ⟨_,_,hv,hc1,hc2⟩:=h.form;have hxl:xb.length≤9223372036854775807:=by omega
 have H:=Hh h;have HL:=Hh hl;clear h hc1 hc2 hv hl;go_enter Tryz.func209,Tryz.ntmps209;go_wp2_with fail;go_loopw [3,4,5,6] (fun u i _ _ wr => ∃ k:Nat,k≤xb.length∧i = .int .i64 k∧Hid (Nms w.heap.size wr u (atomsD (xb.take k)))∧Hid (Fut w wr)) (fun _ i _ _ _ => xb.length - (intOf i).toNat)
 case atStart => exact ⟨0,Nat.zero_le _,rfl,Hh OwnL.nil,Hh (Fut.refl _)⟩
 case round =>
  obtain ⟨k,hk,rfl,hI,hF⟩:=hrel
  by_cases hlt:k<xb.length
  ·have hltI:(k:Int)<xb.length:=by omega
   have e0:(0:Int)≤k∧(k:Int)<xb.length:=by omega
   obtain ⟨b',off,A',c2,Al,l',cl,Ad,d',cd,rfl,hcs,_,_,g3⟩:=lt_at (H.out.fut RLt.stays hF.out) hlt;have hnx:=Hh (show atomsD (xb.take (k+1))=(if (xb[k]).k=1 then (tmVars (xb[k]).a).foldl addF (atomsD (xb.take k)) else atomsD (xb.take k)) by unfold atomsD;rw [List.take_succ_eq_append_getElem hlt,List.foldl_append];rfl);have hlen:=Hh (Nat.le_trans (atoms_len xb hlt) HL.out)
   have hza:(xb[k]).a.length≤1000000000:=by
    have h1:=args_len xb hlt;have h2:=HL.out;omega
   generalize xb[k]=z at *;have u0:wr.cell? ⟨b',off+k * 16,none⟩=some (.int .i8 z.k):=hcs 0 _ rfl;obtain ⟨G,hG⟩:∃ G,atomsD (xb.take k)=G:=⟨_,rfl⟩
   rw [hG] at hI hnx hlen;clear hG;have hargs:=Hh g3.args
   by_cases ek:z.k=1
   rotate_left
   ·have ekb:(z.k == 1)=false:=by rw [beq_eq_false_iff_ne];exact ek
    rw [if_neg ek] at hnx;have HI:=Hh (show Nms w.heap.size wr u3 (atomsD (xb.take (k+1))) by rw [hnx.out];exact hI.out);clear hcs g3;go_wp2;go_roundw
    case rel => exact ⟨k+1,by omega,by go_num,HI,hF⟩
    case measure => simp [intOf] <;> omega
   rw [if_pos ek] at hnx;have ekb:(z.k == 1)=true:=by rw [ek];rfl
   have HC:=Hh (ratomVars_any z.p A' c2 _ z.a wr hargs.out (by decide) hza)
   have hr2:=Hh (show wr.rangeAt b' (off+k * 16+1) [.string z.p,.slice A' z.a.length c2] from fun j v hj => by
    rw [Nat.add_assoc]
    match j,hj with
    | 0,hj => exact hcs 1 v hj
    | 1,hj => exact hcs 2 v hj
    | j+2,hj => simp at hj)
   have hi2:=infoAtN;have hvl:=hlen.out;generalize tmVars z.a=vs at *;clear hcs g3 hargs hza;go_wp2_with (first|(show wpList _ _ _ (Oper.mk _ (Op.load 108 _) _ _ _ _ :: _) _ _;refine Go.wpList_load_mid rfl _ _ rfl b' (off+k * 16+1) rfl _ _ hr2.out Tryz.underlying108 rfl hi2 ?_));refine HC.out.mono ?_;rintro e w3 ⟨v3,rfl,o3,f3⟩;obtain ⟨Av,cv,rfl,_,_⟩:=o3.rep.form;have HF3:=Hh (hF.out.trans f3);have HO3:=Hh (hI.out.fut RNm.stays f3);have HT3:=Hh (show NmsAt w.heap.size w3 w3 u3 u3 ((vs.take 0).foldl addF G) from NmsAt.refl HO3.out);have HV:=Hh o3.rep
   have hne:∀ a,Av=some a→¬ (u3.ownBlock=some a.block∨w3.heap.size≤a.block):=fun a ha h9 => by
    have g1:=o3.block a.block (by rw [ha];rfl);rcases h9 with h9|h9
    ·have g2:=(hI.out.block _ h9).2;omega
    ·omega
   replace hne:=Hh hne;clear o3 f3 hI hr2 HC hF;go_wp2_with fail;go_loopw [3,6] (fun u i W => ∃ m:Nat,m≤vs.length∧i = .int .i64 m∧Hid (NmsAt w.heap.size w3 W u3 u ((vs.take m).foldl addF G))) (fun _ i _ => vs.length - (intOf i).toNat)
   case atStart => exact ⟨0,Nat.zero_le _,rfl,HT3⟩
   case round =>
    clear HT3;obtain ⟨m,hm,rfl,hT⟩:=hrel;have hF:=Hh (hT.out.fut HF3.out HO3.out (Nat.le_refl _))
    by_cases hlm:m<vs.length
    ·have hlmI:(m:Int)<vs.length:=by omega
     have e1:(0:Int)≤m∧(m:Int)<vs.length:=by omega
     obtain ⟨b2,off2,rfl,x0⟩:=nm_at HV.out hlm;replace x0:=hT.out.2.1.cell x0 (hne.out ⟨b2,off2,none⟩ rfl);have hnx2:=Hh (show (vs.take (m+1)).foldl addF G=addF ((vs.take m).foldl addF G) vs[m] by rw [List.take_succ_eq_append_getElem hlm,List.foldl_append];rfl);have hGl:=foldF_len (vs.take m) G;rw [List.length_take] at hGl;obtain ⟨G2,hG2⟩:∃ G2,(vs.take m).foldl addF G=G2:=⟨_,rfl⟩
     rw [hG2] at hT hnx2 hGl;replace hGl:G2.length≤1000000000:=by omega
     generalize vs[m]=z2 at *;obtain ⟨wo,rfl⟩:∃ x,x=wr:=⟨_,rfl⟩
     have hI:=hT.out.1;obtain ⟨Au,cu,rfl,_,_⟩:=hI.rep.form;have HIn:=Hh (rin_any z2 Au cu G2 wo hI.rep (by decide));obtain ⟨d,hd⟩:∃ d,decide (z2 ∈ G2)=d:=⟨_,rfl⟩
     rw [hd] at HIn;replace hd:=Hh hd;have hsz:=hF.out.size;replace hI:=Hh hI;clear hG2;cases d
     ·have c3:¬ z2 ∈ G2:=of_decide_eq_false hd.out;replace hnx2:=Hh (show (vs.take (m+1)).foldl addF G=G2++[z2] by rw [hnx2.out];unfold addF;rw [if_neg c3]);go_wp2_with fail;refine HIn.out.mono ?_;rintro e w4 ⟨rfl,rfl⟩;clear HIn c3;go_wp2_with (first|(at_builtin;refine wpList_append_LB (R:=RNm) (B:=w.heap.size) (M:=1) (xs:=G2) (ys:=[z2]) (e:=9) (by go_simp) _ _ tVl' rfl Tryz.underlying76 (.string ⟨#[]⟩) 16 infoNm rfl (by decide) RNm.one RNm.keeps rfl rfl (hI.out.fut RNm.stays (Fut.alloc _ _)) (nmOne _ _ _) ?l3 ?m3 ?b3 ?k3))
      case l3 => simp [maxLen];omega
      case m3 => simp;omega
      case b3 => simp;omega
      case k3 =>
      intro v' w' o' g' sn';have HT:=Hh (show NmsAt w.heap.size w3 w' u3 v' ((vs.take (m+1)).foldl addF G) by rw [hnx2.out];exact hT.out.more o' g' sn');clear o' g' sn' hT hI hF;go_wp2;go_roundw
      case rel => exact ⟨m+1,by omega,by go_num,HT⟩
      case measure => simp [intOf] <;> omega
     ·have c3:z2 ∈ G2:=of_decide_eq_true hd.out;have HT:=Hh (show NmsAt w.heap.size w3 wo u3 (.slice Au G2.length cu) ((vs.take (m+1)).foldl addF G) by rw [hnx2.out];unfold addF;rw [if_pos c3];exact hT.out);go_wp2_with fail;refine HIn.out.mono ?_;rintro e w4 ⟨rfl,rfl⟩;go_wp2;go_roundw
      case rel => exact ⟨m+1,by omega,by go_num,HT⟩
      case measure => simp [intOf] <;> omega
    ·obtain rfl:m=vs.length:=by omega
     rw [List.take_length,← hnx.out] at hT;have HI:=Hh hT.out.1;clear hT;go_wp2;go_roundw
     case rel => exact ⟨k+1,by omega,by go_num,HI,hF⟩
     case measure => simp [intOf] <;> omega
  ·obtain rfl:k=xb.length:=by omega
   rw [List.take_length] at hI;go_wp2;go_ret;exact ⟨_,rfl,hI.out,hF.out⟩
end Go.Proofs.YtobabnpllokkaaaGreatDoor
