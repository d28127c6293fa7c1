/- Parts. -/
import Derived.Test.YtobabnpllokkaaaGreatDoorP26
import Derived.Test.YtobabnpllokkaaaGreatDoorP24
import Derived.Test.YtobabnpllokkaaaGreatDoorP00
set_option linter.unusedSimpArgs false
set_option linter.unusedVariables false
namespace Go.Proofs.YtobabnpllokkaaaGreatDoor
open Go.RowKit Go.WideMaps
theorem infoQText:(Tryz.prog.info? 9).map (fun i => (i.zero,i.size,i.bytes))=some (some (.string ⟨#[]⟩),1,16):=by kernel_rfl
def RQText (_:World) (cs:List Value) (x:Option Int):Prop:=match x with
 | some m => cs=(#[.string (wordN m)]:Array Value).toList
 | none => ∀ u ∈ cs,u.oneCell'=true
theorem oneTextQ (m:Int):∀ v ∈ (#[.string (wordN m)]:Array Value).toList,v.oneCell'=true:=fun v hv => by
 simp only [List.mem_cons,List.not_mem_nil,or_false] at hv
 first|(subst hv;rfl)|(rcases hv with rfl|rfl <;> rfl)|(rcases hv with rfl|rfl|rfl <;> rfl)|(rcases hv with rfl|rfl|rfl|rfl <;> rfl)
theorem RQText.stays:Stays RQText:=fun _ _ _ _ _ h => h
theorem RQText.same:∀ (w w':World) cs (x:Option Int),RQText w cs x→RQText w' cs x:=fun _ _ _ _ h => h
theorem RQText.one:∀ (w:World) cs x,RQText w cs x→∀ u ∈ cs,u.oneCell'=true:=fun w cs x h u hu => by
 cases x with
 | none => exact h u hu
 | some m => rw [show cs=_ from h] at hu;exact oneTextQ m u hu
theorem atText_markQ {w:World} {A:Option Addr} {n cap M N:Nat} {m:Int} (h:SlRep 1 M RQText w (.slice A n cap) (List.replicate N (some m))) {k:Nat} (hk:k<N):∃ b off,A=some ⟨b,off,none⟩∧w.rangeAt b (off+k * 1) (#[.string (wordN m)]:Array Value).toList:=by
 obtain ⟨A1,cap1,hv,_,_,h3⟩:=h;obtain ⟨b,off,cs,hA,hl,hc,hr⟩:=h3 k (some m) (by rw [List.getElem?_replicate,if_pos hk]);injection hv with hv _ _
 refine ⟨b,off,hv.trans hA,fun j c hj => ?_⟩;obtain rfl:cs=_:=hr;rw [Nat.add_assoc];exact hc j c hj
section
variable {NB:Nat}
theorem markText_q (n:Int) (h0:0≤n) (h1:n≤1000000000) (w:World) (hP:Pows w):Calls Tryz.prog 113 #[.int .i64 n] w fun e w' => e = .returned (.string (wordN n))∧Fut w w':=by
 have HW:=Hh (wordN_any n h0 h1 w hP);generalize wordN n=y at HW;go_enter Tryz.func113,Tryz.ntmps113;go_wp2_with fail;refine HW.out.mono ?_;rintro e w1 ⟨rfl,f1⟩;go_wp2;go_ret;exact ⟨rfl,f1⟩
theorem isText_q (n:Int) (h0:0≤n) (h1:n≤1000000000) (w:World) (hP:Pows w):Calls Tryz.prog 225 #[.string (wordN n),.int .i64 n] w fun e w' => e = .returned (.bool true)∧Fut w w':=by
 have HW:=Hh (wordN_any n h0 h1 w hP);generalize wordN n=y at HW;go_enter Tryz.func225,Tryz.ntmps225;go_wp2_with fail;refine HW.out.mono ?_;rintro e w1 ⟨rfl,f1⟩;go_wp2;go_ret;exact ⟨by simp,f1⟩
set_option maxHeartbeats 1600000 in
set_option maxRecDepth 100000 in
theorem fillText_q {B:Nat} {w:World} {b:Nat} {v:Value} {hs:List Hd} {f:Nat→List (Option Int)} (hc:w.cell? ⟨b,12,none⟩=some v) (hH:OwnL 3 B 162 RH w v hs) (hL:Lists 1 B 9 RQText w hs f)
    (hb:¬ ownsL hs b) (hv:∀ k,v.ownBlock=some k→¬ ownsL hs k) (hPW:∀ W,Only (fun k => B≤k) w W→Pows W) (hNN:∀ (i:Nat) (h:Hd),hs[i]?=some h→0≤h.n∧h.n≤1000000000) (hNB:NB≤w.heap.size) :
    Calls Tryz.prog 51 #[.pointer (some ⟨b,0,none⟩)] w fun e w' => (∃ u,e = .returned u)∧Lists 1 B 9 RQText w' hs (markF some hs f)∧Only (ownsL hs) w w':=by
 have HPW:=Hh hPW;have HNN:=Hh hNN;have HNB:=Hh hNB;clear hPW hNN hNB;have HH:=Hh hH;have HL:=Hh hL;have HV:=Hh hv;have hB0:b<w.heap.size:=lt_of_cell hc;obtain ⟨A,cap,rfl,hcl,hcm⟩:=hH.rep.form;have hml:hs.length≤9223372036854775807:=Nat.le_trans hcl hcm;have HLt:=Hh HL.out.lt;clear hH hL hv;go_enter Tryz.func51,Tryz.ntmps51;go_wp2_with fail;go_loopw [2] (fun i wr => ∃ k:Nat,k≤hs.length∧i = .int .i64 k∧Hid (Lists 1 B 9 RQText wr hs (upTo k (markF some hs f) f))∧Hid (Only (ownsL hs) w wr)) (fun i _ => hs.length - (intOf i).toNat)
 case atStart => exact ⟨0,Nat.zero_le _,rfl,Hh (HL.out.cong fun i _ => (by unfold upTo;rw [if_neg (by omega)])),Hh (Only.refl _)⟩
 case round =>
  obtain ⟨k,hk,rfl,hL,hO⟩:=hrel;have cw:=hO.out.cell hc hb
  by_cases hlt:k<hs.length
  ·have hltI:(k:Int)<hs.length:=by omega
   have e1:(0:Int)≤k∧(k:Int)<hs.length:=by omega
   have e3:IntKind.i64.wrap ((k:Int)+1)=((k+1:Nat):Int):=by rw [IntKind.wrap_i64];omega
   obtain ⟨gv,ov,l,long,m,rfl,hkk,d0,d1,d2,⟨A1,n1,c1,rfl⟩,A2,n2,c2,rfl⟩:=held_at ((HH.out.only (RH.same w wr) hO.out HV.out).rep) hlt;have hmn:0≤m∧m≤1000000000:=HNN.out k _ hkk;have hE:=hL.out.each k _ hkk;have hfk:upTo k (markF some hs f) f k=f k:=by unfold upTo;rw [if_neg (by omega)]
   rw [hfk] at hE;obtain ⟨_,_,hn1,hn1c,hn1m⟩:=hE.rep.form;obtain rfl:n1=(f k).length:=by injection hn1
   have hml1:(f k).length≤9223372036854775807:=Nat.le_trans hn1c hn1m;clear hn1;have HE:=Hh hE;clear hE;go_wp2_with fail;have h3:=heap_alloc_new wr (.cells #[.slice A1 (f k).length c1,.slice A2 n2 c2,.int .i64 m] 162);have F1:=Fut.alloc wr (.cells #[.slice A1 (f k).length c1,.slice A2 n2 c2,.int .i64 m] 162);obtain ⟨w1,hw1⟩:∃ W,wr.alloc (.cells #[.slice A1 (f k).length c1,.slice A2 n2 c2,.int .i64 m] 162)=W:=⟨_,rfl⟩
   rw [hw1] at h3 F1 ⊢;clear hw1;have HE1:=Hh (HE.out.fut (fun _ _ _ _ _ h => h) F1);have hbl:=HE.out.block;have F1':=Hh F1;clear F1;go_loopw [4] (fun i wq => ∃ q:Nat,q≤(f k).length∧i = .int .i64 q∧Hid (OwnL 1 B 9 RQText wq (.slice A1 (f k).length c1) (List.replicate q (some m)++(f k).drop q))∧Hid (Only (fun j => (Value.slice A1 (f k).length c1).ownBlock=some j) w1 wq)) (fun i _ => (f k).length - (intOf i).toNat)
   case atStart => exact ⟨0,Nat.zero_le _,rfl,HE1,Hh (Only.refl _)⟩
   case round =>
    obtain ⟨q,hq,rfl,hE2,hO2⟩:=hrel;have b3:=hO2.out.keeps h3 (fun h => by have:=(hbl _ h).2;omega);have t0:=cell_at b3 0 (.slice A1 (f k).length c1) rfl;have t2:=cell_at b3 2 (.int .i64 m) rfl
    by_cases hql:q<(f k).length
    ·have hqI:(q:Int)<(f k).length:=by omega
     have e2:(0:Int)≤q∧(q:Int)<(f k).length:=by omega
     have e4:IntKind.i64.wrap ((q:Int)+1)=((q+1:Nat):Int):=by rw [IntKind.wrap_i64];omega
     have hll:(List.replicate q (some m)++(f k).drop q).length=(f k).length:=by rw [List.length_append,List.length_replicate,List.length_drop];omega
     obtain ⟨g,arr,rfl,hlx,hg,hsz⟩:=hE2.out.arr (q:=q) (by rw [hll];exact hql);clear hlx hll;have HPq:=Hh (fun W (hW:Fut wr W) => (⟨HPW.out W ((((hO.out.mono fun j _ hs' => (HLt.out j hs').1).trans (Only.fut F1'.out)).trans ((hO2.out.mono fun j _ hj => (hbl j hj).1).trans (Only.fut hW)))),Nat.le_trans HNB.out (Only.size ((((hO.out.mono fun j _ hs' => (HLt.out j hs').1).trans (Only.fut F1'.out)).trans ((hO2.out.mono fun j _ hj => (hbl j hj).1).trans (Only.fut hW)))))⟩:Pows W∧NB≤W.heap.size));go_wp2_with fail;refine wp_graph 6 [.d,.d,.d,.d,.d,.d] (by kernel_rfl) (by kernel_rfl) (by kernel_rfl) ?_;simp only [takS,Exs]
     iterate 6 apply Exists.intro
     apply Run.valG (wanted_none rfl _)
     ·intro w1 h1 hk;go_simp;rfl
     simp only [actS];apply Run.valG (wanted_none rfl _)
     ·intro w1 h1 hk;have q0:=h1.cell t0;have q2:=h1.cell t2;have hcw:=fun b o => Below.cell (p:=⟨b,o,none⟩) h1;go_simp;rfl
     simp only [actS]
     iterate 2
      apply Run.valG (wanted_none rfl _)
      ·intro w1 h1 hk;go_simp;rfl
      simp only [actS]
     apply Run.valG (wanted_none rfl _)
     ·intro w1 h1 hk;have q0:=h1.cell t0;have q2:=h1.cell t2;have hcw:=fun b o => Below.cell (p:=⟨b,o,none⟩) h1;go_simp;rfl
     simp only [actS];apply Run.call (wanted_none rfl _) (fun _ _ => by go_simp;exact ⟨rfl,rfl⟩)
     ·intro w1 h1 hk;have q0:=h1.cell t0;have q2:=h1.cell t2;refine (markText_q m hmn.1 hmn.2 _ (HPq.out _ ((Fut.drew _).trans h1)).1).mono ?_;rintro e w' ⟨rfl,hf⟩;exact ⟨rfl,hf⟩
     simp only [actS];apply Run.done;intro w2 h2 hk;clear hk;have F2:=(Fut.drew _).trans h2;have hg2:=F2.block hg;have x2:=cell_at hg2 q arr[q] (by simp);have z2:=free_at hg2 q;go_wp2;have OS:Only (fun j => j=g) w2 (w2.setCell ⟨g,q,none⟩ (.string (wordN m))):=Only.set _ _ rfl;have hW:=(hE2.out.fut RQText.stays F2).write hg2 (set_blk hg2 (i:=q) (v:=.string (wordN m))) (k:=q) (by rw [List.length_append,List.length_replicate,List.length_drop];omega) (cs:=[.string (wordN m)]) (y:=some m) (set1_spec (by omega)) rfl rfl (fun cs x h => h);rw [mark_set hql] at hW;go_roundw
     case rel => exact ⟨q+1,by omega,by go_num,Hh hW,Hh (hO2.out.trans ((Only.fut F2).trans (OS.mono fun j _ hj => by have hj':j=g:=hj;rw [hj'];rfl)))⟩
     case measure => simp [intOf] <;> omega
    ·obtain rfl:q=(f k).length:=by omega
     have hE3:=hE2.out;rw [List.drop_length,List.append_nil] at hE3;have hf:=(Only.fut F1'.out).trans hO2.out;have HE3:=Hh hE3;have HF:=Hh hf;clear hE3 hf hE2 hO2;go_wp2;go_roundw
     case rel => exact ⟨k+1,by omega,by go_num,Hh (hL.out.step (RQText.same _ _) hkk HF.out HE3.out (markF_at hkk)),Hh (hO.out.trans (HF.out.mono fun j _ hj => ⟨k,_,hkk,hj⟩))⟩
     case measure => simp [intOf] <;> omega
  ·obtain rfl:k=hs.length:=by omega
   go_wp2;go_end0;exact ⟨⟨_,rfl⟩,hL.out.cong fun i hi => (by unfold upTo;rw [if_pos hi]),hO.out⟩
set_option maxHeartbeats 1600000 in
set_option maxRecDepth 100000 in
theorem growText_q {B:Nat} {w:World} {b:Nat} {v:Value} {hs:List Hd} {ns:Nat→Nat} (hc:w.cell? ⟨b,12,none⟩=some v) (hH:OwnL 3 B 162 RH w v hs) (hL:Lists 1 B 9 RQText w hs (fun i => List.replicate (ns i) (some ((hs.getD i ⟨.slice none 0 0,.slice none 0 0,0⟩).n))))
    (hb:¬ ownsL hs b) (hvb:v.ownBlock≠some b) (hv:∀ k,v.ownBlock=some k→¬ ownsL hs k) (hB:B≤w.heap.size) (hns:∀ i,i<hs.length→ns i+70≤8796093022208) (hPW:∀ W,Only (fun k => B≤k) w W→Pows W) (hNN:∀ (i:Nat) (h:Hd),hs[i]?=some h→0≤h.n∧h.n≤1000000000) (hNB:NB≤w.heap.size) :
    Calls Tryz.prog 144 #[.pointer (some ⟨b,0,none⟩)] w fun e w' => (∃ u,e = .returned u)∧∃ hs',Grow 1 B 9 162 RQText some w v hs ns hs.length w' hs':=by
 have HPW:=Hh hPW;have HNN:=Hh hNN;have HNB:=Hh hNB;clear hPW hNN hNB;have hlow:∀ x,ownsL hs x→x<w.heap.size:=fun x hx => (hL.lt x hx).2;have hvw:∀ x,v.ownBlock=some x→x<w.heap.size∧¬ ownsL hs x:=fun x hx => ⟨(hH.block x hx).2,hv x hx⟩
 have G0:Grow 1 B 9 162 RQText some w v hs ns 0 w hs:=⟨hH,rfl,fun _ _ => rfl,fun i h hi => absurd hi (by omega),fun i h _ hi => (by
  have h1:=hL.each i h hi;have h2:hs.getD i ⟨.slice none 0 0,.slice none 0 0,0⟩=h:=by rw [List.getD_eq_getElem?_getD,hi];rfl
  simp only [h2] at h1;exact h1),Only.refl _⟩
 have HLt:=Hh hL.lt;have HVt:=Hh hH.block;have HG0:=Hh G0;have HA:=Hh hL.apart;have HLO:=Hh hlow;have HV:=Hh hvw;have HNS:=Hh hns;have hB0:b<w.heap.size:=lt_of_cell hc;have hcb:¬ (ownsL hs b∨v.ownBlock=some b):=fun h => h.elim hb hvb;obtain ⟨A,cap,rfl,hcl,hcm⟩:=hH.rep.form;have hml:hs.length≤9223372036854775807:=Nat.le_trans hcl hcm;clear hH hL hv hlow hvw G0 hns;go_enter Tryz.func144,Tryz.ntmps144;go_wp2_with fail;go_loopw [2] (fun i wr => ∃ k:Nat,k≤hs.length∧i = .int .i64 k∧Hid (∃ hs',Grow 1 B 9 162 RQText some w (.slice A hs.length cap) hs ns k wr hs')) (fun i _ => hs.length - (intOf i).toNat)
 case atStart => exact ⟨0,Nat.zero_le _,rfl,Hh ⟨_,HG0.out⟩⟩
 case round =>
  obtain ⟨k,hk,rfl,hG⟩:=hrel;obtain ⟨hs',hG⟩:=hG.out;have cw:=hG.only.cell hc hcb;have hws:=hG.only.size
  by_cases hlt:k<hs.length
  ·have hltI:(k:Int)<hs.length:=by omega
   have e1:(0:Int)≤k∧(k:Int)<hs.length:=by omega
   have e3:IntKind.i64.wrap ((k:Int)+1)=((k+1:Nat):Int):=by rw [IntKind.wrap_i64];omega
   obtain ⟨gv,ov,l,long,m,rfl,hkk,d0,d1,d2,⟨A1,n1,c1,rfl⟩,A2,n2,c2,rfl⟩:=held_at hG.held.rep (k:=k) (by rw [hG.len];exact hlt);have hkk':=hkk;rw [hG.rest k (Nat.le_refl _)] at hkk;have hmn:0≤m∧m≤1000000000:=HNN.out k _ hkk;have hE:=hG.todo k _ (Nat.le_refl _) hkk;obtain ⟨Aq,cq,hn1,hn1c,hn1m⟩:=hE.rep.form;rw [List.length_replicate] at hn1 hn1c;obtain rfl:n1=ns k:=by injection hn1
   clear hn1;have hnk:=HNS.out k hlt;have hat0:=hE.at0;obtain ⟨gv',arrv,hgv',hlx,hgv,hszv⟩:=hG.held.arr (q:=k) (by rw [hG.len];exact hlt);injection hgv' with hgv'
   injection hgv' with q1 q2
   subst q1 q2;rw [Nat.zero_add] at d0 d1 d2;have HE:=Hh hE;have HG:=Hh hG;clear hE hG hlx;go_wp2_with fail;have h3:=heap_alloc_new wr (.cells #[.slice A1 (ns k) c1,.slice A2 n2 c2,.int .i64 m] 162);have F1:=Fut.alloc wr (.cells #[.slice A1 (ns k) c1,.slice A2 n2 c2,.int .i64 m] 162);obtain ⟨w1,hw1⟩:∃ W,wr.alloc (.cells #[.slice A1 (ns k) c1,.slice A2 n2 c2,.int .i64 m] 162)=W:=⟨_,rfl⟩
   rw [hw1] at h3 F1 ⊢;clear hw1;have HE1:=Hh (HE.out.fut RQText.stays F1);have hbl:=HE.out.block;have hs1:=F1.size;have F1':=Hh F1;have HL1:=Hh (HE1.out.rep);clear F1;go_loopw [4,5] (fun L i wq => ∃ q:Nat,q≤70∧i = .int .i64 q∧Hid (OwnL 1 B 9 RQText wq L (List.replicate (ns k+q) (some m)))∧Hid (SlRep 1 maxLen RQText wq (.slice A1 (ns k) c1) (List.replicate (ns k) (some m)))∧Hid (∀ x,L.ownBlock=some x→(Value.slice A1 (ns k) c1).ownBlock=some x∨w1.heap.size≤x)∧Hid (Only (fun j => (Value.slice A1 (ns k) c1).ownBlock=some j) w1 wq)) (fun _ i _ => 70 - (intOf i).toNat)
   case atStart => exact ⟨0,Nat.zero_le _,rfl,HE1,HL1,Hh (fun x hx => .inl hx),Hh (Only.refl _)⟩
   case round =>
    obtain ⟨q,hq,rfl,hL2,hS2,hB2,hO2⟩:=hrel;have b3:=hO2.out.keeps h3 (fun h => by have:=(hbl _ h).2;omega);have t2:=cell_at b3 2 (.int .i64 m) rfl;have hs2:=hO2.out.size
    by_cases hql:q<70
    ·have hqI:(q:Int)<70:=by omega
     have e4:IntKind.i64.wrap ((q:Int)+1)=((q+1:Nat):Int):=by rw [IntKind.wrap_i64];omega
     have HPq:=Hh (fun W (hW:Fut wr W) => (⟨HPW.out W ((((HG.out.only.mono fun j _ hj => hj.elim (fun h => (HLt.out j h).1) (fun h => (HVt.out j h).1)).trans (Only.fut F1'.out)).trans ((hO2.out.mono fun j _ hj => (hbl j hj).1).trans (Only.fut hW)))),Nat.le_trans HNB.out (Only.size ((((HG.out.only.mono fun j _ hj => hj.elim (fun h => (HLt.out j h).1) (fun h => (HVt.out j h).1)).trans (Only.fut F1'.out)).trans ((hO2.out.mono fun j _ hj => (hbl j hj).1).trans (Only.fut hW)))))⟩:Pows W∧NB≤W.heap.size));go_wp2_with fail;refine (markText_q m hmn.1 hmn.2 _ (HPq.out _ (Fut.refl _)).1).mono ?_;rintro e wm ⟨rfl,hfm⟩;have hOa:=hL2.out.fut RQText.stays (hfm.trans (Fut.alloc wm (.cells #[.string (wordN m)] 9)));have hba:=heap_alloc_new wm (.cells #[.string (wordN m)] 9);have hza:(wm.alloc (.cells #[.string (wordN m)] 9)).heap.size=wm.heap.size+1:=by simp
     have HZa:=Hh hza;have hsm:=hfm.size;have hbs:B≤(wm.alloc (.cells #[.string (wordN m)] 9)).heap.size:=by omega
     have FA:=Hh (hfm.trans (Fut.alloc wm (.cells #[.string (wordN m)] 9)));clear hza;go_wp2_with (first|(refine wpList_append1 (P:=Tryz.prog) (e:=9) (e':=9) (cs:=(#[.string (wordN m)]:Array Value).toList) (y:=some m) (wanted_none rfl _) _ _ rfl Tryz.underlying76 infoQText rfl (by omega) RQText.one (fun _ cs x h _ => RQText.same _ _ cs x h) rfl rfl hOa hba rfl rfl (by rw [List.length_replicate];unfold maxLen;omega) (by rw [List.length_replicate];omega) hbs ?_;intro v8 w8 hO8 hG8 hB8));have hre:List.replicate (ns k+q) (some m)++[some m]=List.replicate (ns k+(q+1)) (some m):=by rw [show ns k+(q+1)=(ns k+q)+1 by omega,List.replicate_succ']
     have hkp:=append_keep (RQText.same _ _) (hS2.out.fut RQText.stays FA.out) hat0 (by rw [List.take_replicate,Nat.min_eq_left (by omega)]) (by rw [List.length_replicate];omega) hG8 hO8 hB8;rw [hre] at hO8;have hO9:=(hO2.out.trans (Only.fut FA.out)).then (Only.grown (S:=fun j => u4.ownBlock=some j) hG8 fun j hj => hj) (fun j hj hlt => (hB2.out j hj).elim id fun h => absurd hlt (by omega));go_roundw
     case rel => exact ⟨q+1,by omega,by go_num,Hh hO8,Hh hkp,Hh (fun x hx => by
      rcases hB8 with h8|⟨h8,_⟩
      ·exact hB2.out x (h8 ▸ hx)
      ·rw [h8] at hx;have:=HZa.out;injection hx with hx
       exact .inr (by omega)),Hh hO9⟩
     case measure => simp [intOf] <;> omega
    ·obtain rfl:q=70:=by omega
     obtain ⟨A4,c4,hu4,h4c,h4m⟩:=hL2.out.rep.form;rw [List.length_replicate] at hu4 h4c;subst hu4;have hf:=(Only.fut F1'.out).trans hO2.out;have hgvl:gv<w.heap.size∧¬ ownsL hs gv:=HV.out gv rfl;have hngv:¬ (Value.slice A1 (ns k) c1).ownBlock=some gv:=fun h => hgvl.2 ⟨k,_,hkk,h⟩;have bgv:=hf.keeps hgv hngv;have cwb:=hf.cell cw (fun h => hb ⟨k,_,hkk,h⟩);have a0:=arr_of_cell hgv d0;have a2:=arr_of_cell hgv d2;have x1:wr.cell? ⟨gv,k * 3+1,none⟩=some (.slice A2 n2 c2):=hf.cell d1 hngv;have z1:=free_at bgv (k * 3+1);have hh:=(HG.out.held.only (RH.same _ _) hf fun x hx hx2 => (HV.out x hx).2 ⟨k,_,hkk,hx2⟩).write bgv (set_blk bgv (i:=k * 3+1) (v:=.slice A4 (ns k+70) c4)) (k:=k) (by rw [HG.out.len];exact hlt) (cs:=Hd.cells ⟨.slice A1 (ns k) c1,.slice A4 (ns k+70) c4,m⟩) (y:=⟨.slice A1 (ns k) c1,.slice A4 (ns k+70) c4,m⟩) (set_held a0 a2) rfl ⟨rfl,⟨_,_,_,rfl⟩,_,_,_,rfl⟩ (RH.same _ _);have OS:Only (fun j => (Value.slice (some ⟨gv,0,none⟩) hs.length cap).ownBlock=some j) wr (wr.setCell ⟨gv,k * 3+1,none⟩ (.slice A4 (ns k+70) c4)):=Only.set _ _ rfl;have HST:=Hh (HG.out.step (RQText.same _ _) (RQText.same _ _) HA.out HLO.out HV.out hkk hf hS2.out hL2.out.rep (fun x hx => (hB2.out x hx).imp id fun h => Nat.le_trans hs1 h) OS hh);clear hh hf;go_wp2;go_roundw
     case rel => exact ⟨k+1,by omega,by go_num,Hh ⟨_,HST.out⟩⟩
     case measure => simp [intOf] <;> omega
  ·obtain rfl:k=hs.length:=by omega
   have HG:=Hh hG;clear hG;go_wp2;go_end0;exact ⟨⟨_,rfl⟩,_,HG.out⟩
set_option maxHeartbeats 1600000 in
set_option maxRecDepth 100000 in
theorem lookText_q {M:Nat} {w:World} {b:Nat} {v:Value} {hs:List Hd} {ns:Nat→Nat} (hc:w.cell? ⟨b,12,none⟩=some v) (hH:SlRep 3 maxLen RH w v hs)
    (hl:∀ (i:Nat) (h:Hd),hs[i]?=some h→SlRep 1 maxLen RQText w h.l (List.replicate (ns i) (some h.n))∧SlRep 1 maxLen RQText w h.long (List.replicate (ns i+70) (some h.n))) (hns:∀ i,i<hs.length→ns i+70≤8796093022208) (hPW:∀ W,Fut w W→Pows W) (hNN:∀ (i:Nat) (h:Hd),hs[i]?=some h→0≤h.n∧h.n≤1000000000) :
    Calls Tryz.prog 175 #[.pointer (some ⟨b,0,none⟩)] w fun e w' => e = .returned (.bool true)∧Fut w w':=by
 have HPW:=Hh hPW;have HNN:=Hh hNN;clear hPW hNN;have HH:=Hh hH;have HL:=Hh hl;have HNS:=Hh hns;obtain ⟨A,cap,rfl,hcl,hcm⟩:=hH.form;have hml:hs.length≤9223372036854775807:=Nat.le_trans hcl hcm;clear hH hl hns;go_enter Tryz.func175,Tryz.ntmps175;go_wp2_with fail;go_loopw [3] (fun i wr => ∃ k:Nat,k≤hs.length∧i = .int .i64 k∧Hid (Fut w wr)) (fun i _ => hs.length - (intOf i).toNat)
 case atStart => exact ⟨0,Nat.zero_le _,rfl,Hh (Fut.refl _)⟩
 case round =>
  obtain ⟨k,hk,rfl,hG⟩:=hrel;have cw:=hG.out.cell hc
  by_cases hlt:k<hs.length
  ·have hltI:(k:Int)<hs.length:=by omega
   have e1:(0:Int)≤k∧(k:Int)<hs.length:=by omega
   have e3:IntKind.i64.wrap ((k:Int)+1)=((k+1:Nat):Int):=by rw [IntKind.wrap_i64];omega
   obtain ⟨gv,ov,l,long,m,rfl,hkk,d0,d1,d2,⟨A1,n1,c1,rfl⟩,A2,n2,c2,rfl⟩:=held_at (HH.out.fut RH.stays hG.out) hlt;have hmn:0≤m∧m≤1000000000:=HNN.out k _ hkk;obtain ⟨hl1,hl2⟩:=HL.out k _ hkk;have hnk:=HNS.out k hlt;obtain ⟨Aq,cq,hn1,_⟩:=hl1.form;obtain ⟨Ar,cr,hn2,_⟩:=hl2.form;rw [List.length_replicate] at hn1 hn2;obtain rfl:n1=ns k:=by injection hn1
   obtain rfl:n2=ns k+70:=by injection hn2
   have e5:IntKind.i64.wrap ((ns k:Int)+70)=(ns k:Int)+70:=by rw [IntKind.wrap_i64];omega
   have HL1:=Hh (hl1.fut RQText.stays hG.out);have HL2:=Hh (hl2.fut RQText.stays hG.out);clear hn1 hn2 hl1 hl2;go_wp2_with fail;have h3:=heap_alloc_new wr (.cells #[.slice A1 (ns k) c1,.slice A2 (ns k+70) c2,.int .i64 m] 162);have F1:=Fut.alloc wr (.cells #[.slice A1 (ns k) c1,.slice A2 (ns k+70) c2,.int .i64 m] 162);obtain ⟨w1,hw1⟩:∃ W,wr.alloc (.cells #[.slice A1 (ns k) c1,.slice A2 (ns k+70) c2,.int .i64 m] 162)=W:=⟨_,rfl⟩
   rw [hw1] at h3 F1 ⊢;clear hw1;have F1':=Hh F1;clear F1;go_loopw [5] (fun i wq => ∃ q:Nat,q≤ns k+70∧i = .int .i64 q∧Hid (Fut w1 wq)) (fun i _ => ns k+70 - (intOf i).toNat)
   case atStart => exact ⟨0,Nat.zero_le _,rfl,Hh (Fut.refl _)⟩
   case round =>
    obtain ⟨q,hq,rfl,hG2⟩:=hrel;have b3:=hG2.out.block h3;have t0:=cell_at b3 0 (.slice A1 (ns k) c1) rfl;have t1:=cell_at b3 1 (.slice A2 (ns k+70) c2) rfl;have t2:=cell_at b3 2 (.int .i64 m) rfl;have HPq:=Hh (fun W (hW:Fut wr W) => HPW.out W (hG.out.trans (F1'.out.trans (hG2.out.trans hW))))
    by_cases hql:q<ns k+70
    ·have hqI:(q:Int)<(ns k:Int)+70:=by omega
     have e2:(0:Int)≤q∧(q:Int)<(ns k:Int)+70:=by omega
     have e4:IntKind.i64.wrap ((q:Int)+1)=((q+1:Nat):Int):=by rw [IntKind.wrap_i64];omega
     obtain ⟨gl,ol,rfl,rl⟩:=atText_markQ (HL2.out.fut RQText.stays (F1'.out.trans hG2.out)) (k:=q) hql
     by_cases hqs:q<ns k
     ·have hqsI:(q:Int)<(ns k:Int):=by omega
      have e6:(0:Int)≤q∧(q:Int)<(ns k:Int):=by omega
      obtain ⟨gs,os,rfl,rs⟩:=atText_markQ (HL1.out.fut RQText.stays (F1'.out.trans hG2.out)) (k:=q) hqs;go_wp2_with fail;refine wp_graph 27 [.d,.d,.d,.d,.d,.d,.d,.d,.d,.d,.d,.d,.d,.d,.d,.d,.d,.d,.d,.d,.d,.d,.d,.d,.d,.d,.d] (by kernel_rfl) (by kernel_rfl) (by kernel_rfl) ?_;simp only [takS,Exs]
      iterate 27 apply Exists.intro
      apply Run.valG (wanted_none rfl _)
      ·intro w1 h1 hk;go_simp;rfl
      simp only [actS];apply Run.valG (wanted_none rfl _)
      ·intro w1 h1 hk;have q0:=h1.cell t0;have q1:=h1.cell t1;have q2:=h1.cell t2;have hg:=(Fut.drew _).trans h1;have hcw:=fun b o => Below.cell (p:=⟨b,o,none⟩) h1;go_simp;rfl
      simp only [actS]
      iterate 2
       apply Run.valG (wanted_none rfl _)
       ·intro w1 h1 hk;go_simp;rfl
       simp only [actS]
      apply Run.valG (wanted_none rfl _)
      ·intro w1 h1 hk;have q0:=h1.cell t0;have q1:=h1.cell t1;have q2:=h1.cell t2;have hg:=(Fut.drew _).trans h1;have hcw:=fun b o => Below.cell (p:=⟨b,o,none⟩) h1
       (have q9:=rangeAt_futQ rl hg 0 _ rfl;rw [Nat.mul_one,Nat.add_zero] at q9;go_simp;rfl)
      simp only [actS];apply Run.valG (wanted_none rfl _)
      ·intro w1 h1 hk;go_simp;rfl
      simp only [actS];apply Run.valG (wanted_none rfl _)
      ·intro w1 h1 hk;have q0:=h1.cell t0;have q1:=h1.cell t1;have q2:=h1.cell t2;have hg:=(Fut.drew _).trans h1;have hcw:=fun b o => Below.cell (p:=⟨b,o,none⟩) h1;go_simp;rfl
      simp only [actS];apply Run.call (wanted_none rfl _) (fun _ _ => by go_simp;exact ⟨rfl,rfl⟩)
      ·intro w1 h1 hk;have q0:=h1.cell t0;have q1:=h1.cell t1;have q2:=h1.cell t2;have hg:=(Fut.drew _).trans h1;refine (isText_q m hmn.1 hmn.2 _ (HPq.out _ hg)).mono ?_;rintro e w' ⟨rfl,hf⟩;exact ⟨rfl,hf⟩
      simp only [actS]
      iterate 2
       apply Run.valG (wanted_none rfl _)
       ·intro w1 h1 hk;go_simp;rfl
       simp only [actS]
      iterate 2
       apply Run.valG (by go_simp)
       ·intro w1 h1 hk;go_simp;rfl
       simp only [actS]
      iterate 2
       apply Run.valG (by go_simp)
       ·intro w1 h1 hk;have q0:=h1.cell t0;have q1:=h1.cell t1;have q2:=h1.cell t2;have hg:=(Fut.drew _).trans h1;have hcw:=fun b o => Below.cell (p:=⟨b,o,none⟩) h1;go_simp;rfl
       simp only [actS]
      iterate 3
       apply Run.valG (by go_simp)
       ·intro w1 h1 hk;go_simp;rfl
       simp only [actS]
      apply Run.valG (by go_simp)
      ·intro w1 h1 hk;have q0:=h1.cell t0;have q1:=h1.cell t1;have q2:=h1.cell t2;have hg:=(Fut.drew _).trans h1;have hcw:=fun b o => Below.cell (p:=⟨b,o,none⟩) h1;go_simp;rfl
      simp only [actS]
      iterate 2
       apply Run.valG (by go_simp)
       ·intro w1 h1 hk;go_simp;rfl
       simp only [actS]
      apply Run.valG (by go_simp)
      ·intro w1 h1 hk;have q0:=h1.cell t0;have q1:=h1.cell t1;have q2:=h1.cell t2;have hg:=(Fut.drew _).trans h1;have hcw:=fun b o => Below.cell (p:=⟨b,o,none⟩) h1
       (have q9:=rangeAt_futQ rs hg 0 _ rfl;rw [Nat.mul_one,Nat.add_zero] at q9;go_simp;rfl)
      simp only [actS];apply Run.valG (by go_simp)
      ·intro w1 h1 hk;go_simp;rfl
      simp only [actS];apply Run.valG (by go_simp)
      ·intro w1 h1 hk;have q0:=h1.cell t0;have q1:=h1.cell t1;have q2:=h1.cell t2;have hg:=(Fut.drew _).trans h1;have hcw:=fun b o => Below.cell (p:=⟨b,o,none⟩) h1;go_simp;rfl
      simp only [actS];apply Run.call (by go_simp) (fun _ _ => by go_simp;exact ⟨rfl,rfl⟩)
      ·intro w1 h1 hk;have q0:=h1.cell t0;have q1:=h1.cell t1;have q2:=h1.cell t2;have hg:=(Fut.drew _).trans h1;refine (isText_q m hmn.1 hmn.2 _ (HPq.out _ hg)).mono ?_;rintro e w' ⟨rfl,hf⟩;exact ⟨rfl,hf⟩
      simp only [actS]
      iterate 2
       apply Run.valG (by go_simp)
       ·intro w1 h1 hk;go_simp;rfl
       simp only [actS]
      apply Run.valG (wanted_none rfl _)
      ·intro w1 h1 hk;go_simp;rfl
      simp only [actS];apply Run.done;intro w2 h2 hk;clear hk;go_wp2;go_roundw
      case rel => exact ⟨q+1,by omega,by go_num,Hh (hG2.out.trans ((Fut.drew _).trans h2))⟩
      case measure => simp [intOf] <;> omega
     ·have hqsI:¬ (q:Int)<(ns k:Int):=by omega
      go_wp2_with fail;refine wp_graph 27 [.d,.d,.d,.d,.d,.d,.d,.d,.d,.d,.d,.d,.d,.d,.d,.d,.d,.d,.d,.d,.d,.d,.d,.d,.d,.d,.d] (by kernel_rfl) (by kernel_rfl) (by kernel_rfl) ?_;simp only [takS,Exs]
      iterate 27 apply Exists.intro
      apply Run.valG (wanted_none rfl _)
      ·intro w1 h1 hk;go_simp;rfl
      simp only [actS];apply Run.valG (wanted_none rfl _)
      ·intro w1 h1 hk;have q0:=h1.cell t0;have q1:=h1.cell t1;have q2:=h1.cell t2;have hg:=(Fut.drew _).trans h1;have hcw:=fun b o => Below.cell (p:=⟨b,o,none⟩) h1;go_simp;rfl
      simp only [actS]
      iterate 2
       apply Run.valG (wanted_none rfl _)
       ·intro w1 h1 hk;go_simp;rfl
       simp only [actS]
      apply Run.valG (wanted_none rfl _)
      ·intro w1 h1 hk;have q0:=h1.cell t0;have q1:=h1.cell t1;have q2:=h1.cell t2;have hg:=(Fut.drew _).trans h1;have hcw:=fun b o => Below.cell (p:=⟨b,o,none⟩) h1
       (have q9:=rangeAt_futQ rl hg 0 _ rfl;rw [Nat.mul_one,Nat.add_zero] at q9;go_simp;rfl)
      simp only [actS];apply Run.valG (wanted_none rfl _)
      ·intro w1 h1 hk;go_simp;rfl
      simp only [actS];apply Run.valG (wanted_none rfl _)
      ·intro w1 h1 hk;have q0:=h1.cell t0;have q1:=h1.cell t1;have q2:=h1.cell t2;have hg:=(Fut.drew _).trans h1;have hcw:=fun b o => Below.cell (p:=⟨b,o,none⟩) h1;go_simp;rfl
      simp only [actS];apply Run.call (wanted_none rfl _) (fun _ _ => by go_simp;exact ⟨rfl,rfl⟩)
      ·intro w1 h1 hk;have q0:=h1.cell t0;have q1:=h1.cell t1;have q2:=h1.cell t2;have hg:=(Fut.drew _).trans h1;refine (isText_q m hmn.1 hmn.2 _ (HPq.out _ hg)).mono ?_;rintro e w' ⟨rfl,hf⟩;exact ⟨rfl,hf⟩
      simp only [actS]
      iterate 2
       apply Run.valG (wanted_none rfl _)
       ·intro w1 h1 hk;go_simp;rfl
       simp only [actS]
      iterate 2
       apply Run.valG (by go_simp)
       ·intro w1 h1 hk;go_simp;rfl
       simp only [actS]
      iterate 2
       apply Run.valG (by go_simp)
       ·intro w1 h1 hk;have q0:=h1.cell t0;have q1:=h1.cell t1;have q2:=h1.cell t2;have hg:=(Fut.drew _).trans h1;have hcw:=fun b o => Below.cell (p:=⟨b,o,none⟩) h1;go_simp;rfl
       simp only [actS]
      iterate 2
       apply Run.valG (by go_simp)
       ·intro w1 h1 hk;go_simp;rfl
       simp only [actS]
      iterate 9
       apply Run.skip (by first|(go_simp;done)|(go_simp;exact fun h => nomatch h));simp only [actS]
      apply Run.valG (by go_simp)
      ·intro w1 h1 hk;go_simp;rfl
      simp only [actS];apply Run.valG (wanted_none rfl _)
      ·intro w1 h1 hk;go_simp;rfl
      simp only [actS];apply Run.done;intro w2 h2 hk;clear hk;go_wp2;go_roundw
      case rel => exact ⟨q+1,by omega,by go_num,Hh (hG2.out.trans ((Fut.drew _).trans h2))⟩
      case measure => simp [intOf] <;> omega
    ·obtain rfl:q=ns k+70:=by omega
     go_wp2;go_roundw
     case rel => exact ⟨k+1,by omega,by go_num,Hh (hG.out.trans (F1'.out.trans hG2.out))⟩
     case measure => simp [intOf] <;> omega
  ·obtain rfl:k=hs.length:=by omega
   go_wp2;go_ret;exact ⟨rfl,hG.out⟩
theorem infoHQText:(Tryz.prog.info? 162).map (fun i => (i.zero,i.size,i.bytes))=some (some (.agg #[.slice none 0 0,.slice none 0 0,.int .i64 0]),3,56):=by kernel_rfl
set_option maxHeartbeats 1600000 in
set_option maxRecDepth 100000 in
theorem keepText_q {B:Nat} {w:World} {b:Nat} {n:Int} {vs:Nat→Value} {hs:List Hd} {Al:Option Addr} {nl cl:Nat} (hb:BookAt 65 w b n vs) (hn:0≤n∧n<1000000000) (hH:OwnL 3 B 162 RH w (vs 12) hs) (hvb:(vs 12).ownBlock≠some b) (hB:B≤w.heap.size) (hl:hs.length<1000000000) :
    Calls Tryz.prog 39 #[.pointer (some ⟨b,0,none⟩),.slice Al nl cl] w fun e w' => (∃ u,e = .returned u)∧∃ v',BookAt 65 w' b (n+1) (updV vs 12 v')∧OwnL 3 B 162 RH w' v' (hs++[⟨.slice Al nl cl,.slice none 0 0,n+1⟩]) ∧
     Only (fun k => k=b∨(vs 12).ownBlock=some k) w w'∧∀ x,v'.ownBlock=some x→(vs 12).ownBlock=some x∨w.heap.size≤x:=by
 have HB:=Hh hb;have HH:=Hh hH;have cn:=hb.num;have zn:=hb.free 0;have hbl:=hb.lt;obtain ⟨A,cap,hv,hcl,hcm⟩:=hH.rep.form;have hvb':∀ x,(vs 12).ownBlock=some x→x≠b∧x<w.heap.size:=fun x hx => ⟨fun e => hvb (e ▸ hx),(hH.block x hx).2⟩
 have HVB:=Hh hvb';have e1:IntKind.i64.wrap (n+1)=n+1:=by rw [IntKind.wrap_i64];omega
 clear hb hH hvb hvb';go_enter Tryz.func39,Tryz.ntmps39;go_wp2_with fail;have O1:Only (fun k => k=b) w (w.setCell ⟨b,0,none⟩ (.int .i64 (n+1))):=Only.set _ _ rfl;have hB1:=HB.out.setN (m:=n+1);obtain ⟨w1,hw1⟩:∃ W,w.setCell ⟨b,0,none⟩ (.int .i64 (n+1))=W:=⟨_,rfl⟩
 rw [hw1] at O1 hB1 ⊢;clear hw1 cn zn;have cv:w1.cell? ⟨b,12,none⟩=some (.slice A hs.length cap):=by rw [← hv];exact hB1.cell (by omega) (by omega)
 have cn:=hB1.num;have HB1:=Hh hB1;have s1:=O1.size;have HH1:=Hh (HH.out.only (RH.same _ _) O1 fun x hx e => (HVB.out x hx).1 e);clear hB1;refine wp_graph0 12 [.d,.d,.d,.d,.d,.d,.d,.d,.d,.d,.d,.r (fun v w => ∃ g,v = .slice (some ⟨g,0,none⟩) 1 1∧w.heap[g]?=some (.cells #[.slice Al nl cl,.slice none 0 0,.int .i64 (n+1)] 162 (0,0)))] (by kernel_rfl) (by kernel_rfl) (by kernel_rfl) (by decide) (by intro c v w a o ho h;obtain rfl:=Option.some.inj ho;exact h) (by kernel_rfl) ?_;simp only [takS,Exs]
 iterate 11 apply Exists.intro
 iterate 2
  apply Run.valG (wanted_none rfl _)
  ·intro w1 h1 hk;go_simp;rfl
  simp only [actS]
 apply Run.valG (wanted_none rfl _)
 ·intro w1 h1 hk;have q0:=h1.cell cv;have q1:=h1.cell cn;have hcw:=fun b o => Below.cell (p:=⟨b,o,none⟩) h1;go_simp;rfl
 simp only [actS];apply Run.valG (wanted_none rfl _)
 ·intro w1 h1 hk;go_simp;rfl
 simp only [actS];apply Run.valG (wanted_none rfl _)
 ·intro w1 h1 hk;have q0:=h1.cell cv;have q1:=h1.cell cn;have hcw:=fun b o => Below.cell (p:=⟨b,o,none⟩) h1;go_simp;rfl
 simp only [actS]
 iterate 2
  apply Run.valG (wanted_none rfl _)
  ·intro w1 h1 hk;go_simp;rfl
  simp only [actS]
 apply Run.valG (wanted_none rfl _)
 ·intro w1 h1 hk;have q0:=h1.cell cv;have q1:=h1.cell cn;have hcw:=fun b o => Below.cell (p:=⟨b,o,none⟩) h1;go_simp;rfl
 simp only [actS];apply Run.valG (wanted_none rfl _)
 ·intro w1 h1 hk;go_simp;rfl
 simp only [actS]
 iterate 2
  apply Run.valG (wanted_none rfl _)
  ·intro w1 h1 hk;have q0:=h1.cell cv;have q1:=h1.cell cn;have hcw:=fun b o => Below.cell (p:=⟨b,o,none⟩) h1;go_simp;rfl
  simp only [actS]
 apply Run.valR (wanted_none rfl _) (by intro v w w' hf hs;exact (by obtain ⟨g,rfl,h⟩:=hs;exact ⟨g,rfl,hf.block h⟩))
 ·intro w1 h1 hk;have q0:=h1.cell cv;have q1:=h1.cell cn;exact ⟨.slice (some ⟨w1.heap.size,0,none⟩) 1 1,_,(by go_simp),Fut.alloc _ _,_,rfl,heap_alloc_new _ _⟩
 intro v11;simp only [actS];apply Run.done;intro w2 h2 hk;obtain ⟨f11,_⟩:=hk;obtain ⟨g,rfl,hg⟩:=f11;have F2:=(Fut.drew _).trans h2;have hOa:=HH1.out.fut RH.stays F2;rw [hv] at hOa;have hB2:=HB1.out.only (S:=fun _ => False) (Only.fut F2) (fun h => h);have hbs:B≤w2.heap.size:=Nat.le_trans hB (Nat.le_trans s1 F2.size);have hvn:¬ (Value.slice A hs.length cap).ownBlock=some b:=fun h => (HVB.out b (hv ▸ h)).1 rfl;clear h2 cv cn;go_wp2_with (first|(refine wpList_append1 (P:=Tryz.prog) (e:=162) (e':=162) (cs:=Hd.cells ⟨.slice Al nl cl,.slice none 0 0,n+1⟩) (y:=⟨.slice Al nl cl,.slice none 0 0,n+1⟩) (wanted_none rfl _) _ _ rfl Tryz.underlying44 infoHQText rfl (by omega) RH.one (fun _ cs x h _ => RH.same _ _ cs x h) rfl rfl hOa hg rfl ⟨rfl,⟨_,_,_,rfl⟩,_,_,_,rfl⟩ (by unfold maxLen;omega) (by omega) hbs ?_;intro v3 w3 hO3 hG3 hB3;obtain ⟨A3,c3,hv3,_⟩:=hO3.rep.form;rw [List.length_append,List.length_singleton] at hv3;have O3:Only (fun k => (Value.slice A hs.length cap).ownBlock=some k) w2 w3:=Only.grown hG3 (fun k hk => hk);have hB4:=hB2.only O3 hvn;have x4:=hB4.cell (j:=12) (by omega) (by omega);have z4:=hB4.free 12;subst hv3));go_end0;have OS:Only (fun k => k=b) w3 (w3.setCell ⟨b,12,none⟩ (.slice A3 (hs.length+1) c3)):=Only.set _ _ rfl;have s2:=F2.size
 have hfr:∀ x,(Value.slice A3 (hs.length+1) c3).ownBlock=some x→(vs 12).ownBlock=some x∨w2.heap.size≤x:=fun x hx => by
  rcases hB3 with h|⟨h,_⟩
  ·exact .inl (by rw [hv];exact (show _=(Value.slice A hs.length cap).ownBlock from h).symm.trans hx)
  ·rw [h] at hx;injection hx with hx;exact .inr (by omega)
 refine ⟨⟨_,rfl⟩,_,hB4.setV (by omega) (by omega),hO3.only (RH.same _ _) OS (fun x hx e => ?_),?_,fun x hx => (hfr x hx).imp id fun h => by omega⟩
 ·subst e;rcases hfr _ hx with h|h
  ·exact (HVB.out _ h).1 rfl
  ·omega
 ·rw [hv];exact ((O1.mono fun k _ hk => .inl hk).trans (Only.fut F2)).trans ((O3.mono fun k _ hk => .inr hk).trans (OS.mono fun k _ hk => .inl hk))
def kdText (NB:Nat):Kd:=⟨1,9,162,RQText,8796093022208⟩
theorem fillAtText {hs:List Hd} (hNN:∀ (i:Nat) (h:Hd),hs[i]?=some h→0≤h.n∧h.n≤1000000000):FillAt Tryz.prog Pows NB (fillF 12) 12 (kdText NB) hs:=fun hc _ hH hL hb hv hnb hP => fillText_q hc hH hL hb hv hP hNN hnb
theorem growAtText {hs:List Hd} (hNN:∀ (i:Nat) (h:Hd),hs[i]?=some h→0≤h.n∧h.n≤1000000000):GrowAt Tryz.prog Pows NB (growF 12) 12 (kdText NB) hs:=fun hc _ hH hL hb hvb hv hB hns hnb hP => growText_q hc hH hL hb hvb hv hB hns hP hNN hnb
theorem keepAtText:KeepAt Tryz.prog 65 39 12 (kdText NB):=fun hb hn hH hvb hB hl => keepText_q hb hn hH hvb hB hl
theorem lookAtText {hs:List Hd} (hNN:∀ (i:Nat) (h:Hd),hs[i]?=some h→0≤h.n∧h.n≤1000000000):LookAt Tryz.prog Pows (lookF 12) 12 (kdText NB) hs:=fun hc _ hH hL _ hn hns hP => lookText_q (M:=0) hc hH hL hns hP fun i h hi => by
 obtain ⟨h0,a1,a2⟩:=hn i h hi;rw [← a2];exact hNN i h0 a1
end
end Go.Proofs.YtobabnpllokkaaaGreatDoor
