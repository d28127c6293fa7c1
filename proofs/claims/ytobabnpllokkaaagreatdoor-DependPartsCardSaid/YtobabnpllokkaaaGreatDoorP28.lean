/- Parts. -/
import Derived.Test.YtobabnpllokkaaaGreatDoorP26
import Derived.Test.YtobabnpllokkaaaGreatDoorP24
import Derived.Test.YtobabnpllokkaaaGreatDoorP27
import Derived.Test.YtobabnpllokkaaaGreatDoorP18
import Derived.Test.YtobabnpllokkaaaGreatDoorP00
set_option linter.unusedSimpArgs false
set_option linter.unusedVariables false
namespace Go.Proofs.YtobabnpllokkaaaGreatDoor
open Go.RowKit Go.WideMaps
theorem infoQTextList:(Tryz.prog.info? 76).map (fun i => (i.zero,i.size,i.bytes))=some (some (.slice none 0 0),1,24):=by kernel_rfl
def RQTextList (NB:Nat) (w:World) (cs:List Value) (x:Option Int):Prop:=match x with
 | some m => ∃ b,cs=[.slice (some ⟨b,0,none⟩) 1 1]∧NB≤b∧w.heap[b]?=some (.cells #[.string (wordN m)] 9 (0,0))
 | none => ∀ u ∈ cs,u.oneCell'=true
section
variable {NB:Nat}
theorem RQTextList.stays:Stays (RQTextList NB):=fun w w' cs x hf h => by
 cases x with
 | none => exact h
 | some m => obtain ⟨b,h1,h2,h3⟩:=h;exact ⟨b,h1,h2,hf.block h3⟩
theorem RQTextList.one:∀ (w:World) cs x,(RQTextList NB) w cs x→∀ u ∈ cs,u.oneCell'=true:=fun w cs x h u hu => by
 cases x with
 | none => exact h u hu
 | some m =>
  obtain ⟨b,rfl,_⟩:=h;rw [List.mem_singleton] at hu;subst hu;rfl
theorem RQTextList.onlyT {S:Nat→Prop} {w w':World} (hO:Only S w w') (hS:∀ k,S k→k<NB∨¬ Ty w 9 k):∀ cs x,(RQTextList NB) w cs x→(RQTextList NB) w' cs x:=fun cs x h => by
 cases x with
 | none => exact h
 | some m =>
  obtain ⟨b,h1,h2,h3⟩:=h;exact ⟨b,h1,h2,hO.keeps h3 fun hs => (hS b hs).elim (fun h9 => by omega) fun h9 => h9 ⟨_,h3⟩⟩
theorem mkTextList {w:World} {b:Nat} {m:Int} (hn:NB≤b) (h:w.heap[b]?=some (.cells #[.string (wordN m)] 9 (0,0))):(RQTextList NB) w [.slice (some ⟨b,0,none⟩) 1 1] (some m):=⟨b,rfl,hn,h⟩
theorem notLTextList {w:World} {k:Nat} {arr:Array Value} (h:w.heap[k]?=some (.cells arr 76 (0,0))):¬ Ty w 9 k:=fun h' => Ty.ne ⟨arr,h⟩ h' (by decide) rfl
theorem notHTextList {w:World} {k:Nat} {arr:Array Value} (h:w.heap[k]?=some (.cells arr 160 (0,0))):¬ Ty w 9 k:=fun h' => Ty.ne ⟨arr,h⟩ h' (by decide) rfl
theorem atTextList_markQ {w:World} {A:Option Addr} {n cap M N:Nat} {m:Int} (h:SlRep 1 M (RQTextList NB) w (.slice A n cap) (List.replicate N (some m))) {k:Nat} (hk:k<N):∃ b off b1,A=some ⟨b,off,none⟩∧w.cell? ⟨b,off+k,none⟩=some (.slice (some ⟨b1,0,none⟩) 1 1)∧w.heap[b1]?=some (.cells #[.string (wordN m)] 9 (0,0)):=by
 obtain ⟨A1,cap1,hv,_,_,h3⟩:=h;obtain ⟨b,off,cs,hA,hl,hc,b1,rfl,_,q⟩:=h3 k (some m) (by rw [List.getElem?_replicate,if_pos hk]);injection hv with hv _ _
 refine ⟨b,off,b1,hv.trans hA,?_,q⟩;have h9:=hc 0 _ rfl
 rwa [Nat.mul_one,Nat.add_zero] at h9
theorem markTextList_q (n:Int) (h0:0≤n) (h1:n≤1000000000) (w:World) (hP:Pows w):Calls Tryz.prog 114 #[.int .i64 n] w fun e w' => ∃ b,e = .returned (.slice (some ⟨b,0,none⟩) 1 1)∧w.heap.size≤b∧w'.heap[b]?=some (.cells #[.string (wordN n)] 9 (0,0))∧Fut w w':=by
 have HW:=Hh (wordN_any n h0 h1 w hP);generalize wordN n=y at HW;go_enter Tryz.func114,Tryz.ntmps114;go_wp2_with fail;refine HW.out.mono ?_;rintro e w1 ⟨rfl,f1⟩;go_wp2;go_ret;exact ⟨_,rfl,f1.size,heap_alloc_new _ _,f1.trans (Fut.alloc _ _)⟩
theorem isTextList_q (n:Int) (h0:0≤n) (h1:n≤1000000000) (b:Nat) (w:World) (hP:Pows w) (hb:w.heap[b]?=some (.cells #[.string (wordN n)] 9 (0,0))):Calls Tryz.prog 226 #[.slice (some ⟨b,0,none⟩) 1 1,.int .i64 n] w fun e w' => e = .returned (.bool true)∧Fut w w':=by
 have HW:=Hh (fun W (hW:Fut w W) => wordN_any n h0 h1 W (hP.fut hW));have hc:=cell_at hb 0 _ rfl;clear hb;generalize wordN n=y at HW hc;go_enter Tryz.func226,Tryz.ntmps226;go_wp2_with fail;refine wp_graph 12 [.d,.d,.d,.d,.d,.d,.d,.d,.d,.d,.d,.d] (by kernel_rfl) (by kernel_rfl) (by kernel_rfl) ?_;simp only [takS,Exs]
 iterate 12 apply Exists.intro
 apply Run.valG (wanted_none rfl _)
 ·intro w1 h1 hk;go_simp;rfl
 simp only [actS]
 iterate 2
  apply Run.valG (wanted_none rfl _)
  ·intro w1 h1 hk;have hg:=(Fut.drew _).trans h1;have q0:=hg.cell hc;have hcw:=fun b o => Below.cell (p:=⟨b,o,none⟩) h1;go_simp;rfl
  simp only [actS]
 apply Run.valG (wanted_none rfl _)
 ·intro w1 h1 hk;go_simp;rfl
 simp only [actS]
 iterate 2
  apply Run.valG (by go_simp)
  ·intro w1 h1 hk;go_simp;rfl
  simp only [actS]
 apply Run.valG (by go_simp)
 ·intro w1 h1 hk;have hg:=(Fut.drew _).trans h1;have q0:=hg.cell hc;have hcw:=fun b o => Below.cell (p:=⟨b,o,none⟩) h1;go_simp;rfl
 simp only [actS];apply Run.valG (by go_simp)
 ·intro w1 h1 hk;go_simp;rfl
 simp only [actS];apply Run.call (by go_simp) (fun _ _ => by go_simp;exact ⟨rfl,rfl⟩)
 ·intro w1 h1 hk;have hg:=(Fut.drew _).trans h1;have q0:=hg.cell hc;refine (HW.out _ hg).mono ?_;rintro e w' ⟨rfl,hf⟩;exact ⟨rfl,hf⟩
 simp only [actS];apply Run.valG (by go_simp)
 ·intro w1 h1 hk;have hg:=(Fut.drew _).trans h1;have q0:=hg.cell hc;have hcw:=fun b o => Below.cell (p:=⟨b,o,none⟩) h1;go_simp;rfl
 simp only [actS]
 iterate 2
  apply Run.valG (wanted_none rfl _)
  ·intro w1 h1 hk;go_simp;rfl
  simp only [actS]
 apply Run.done;intro w2 h2 hk;clear hk;go_wp2;go_ret;exact ⟨by simp,(Fut.drew _).trans h2⟩
set_option maxHeartbeats 1600000 in
set_option maxRecDepth 100000 in
theorem fillTextList_q {B:Nat} {w:World} {b:Nat} {v:Value} {hs:List Hd} {f:Nat→List (Option Int)} (hc:w.cell? ⟨b,13,none⟩=some v) (hH:OwnL 3 B 160 RH w v hs) (hL:Lists 1 B 76 (RQTextList NB) w hs f)
    (hb:¬ ownsL hs b) (hv:∀ k,v.ownBlock=some k→¬ ownsL hs k) (hPW:∀ W,Only (fun k => B≤k) w W→Pows W) (hNN:∀ (i:Nat) (h:Hd),hs[i]?=some h→0≤h.n∧h.n≤1000000000) (hNB:NB≤w.heap.size) :
    Calls Tryz.prog 52 #[.pointer (some ⟨b,0,none⟩)] w fun e w' => (∃ u,e = .returned u)∧Lists 1 B 76 (RQTextList NB) w' hs (markF some hs f)∧Only (ownsL hs) w w':=by
 have HPW:=Hh hPW;have HNN:=Hh hNN;have HNB:=Hh hNB;clear hPW hNN hNB;have HH:=Hh hH;have HL:=Hh hL;have HV:=Hh hv;have hB0:b<w.heap.size:=lt_of_cell hc;obtain ⟨A,cap,rfl,hcl,hcm⟩:=hH.rep.form;have hml:hs.length≤9223372036854775807:=Nat.le_trans hcl hcm;have HLt:=Hh HL.out.lt;clear hH hL hv;go_enter Tryz.func52,Tryz.ntmps52;go_wp2_with fail;go_loopw [2] (fun i wr => ∃ k:Nat,k≤hs.length∧i = .int .i64 k∧Hid (Lists 1 B 76 (RQTextList NB) wr hs (upTo k (markF some hs f) f))∧Hid (Only (ownsL hs) w wr)) (fun i _ => hs.length - (intOf i).toNat)
 case atStart => exact ⟨0,Nat.zero_le _,rfl,Hh (HL.out.cong fun i _ => (by unfold upTo;rw [if_neg (by omega)])),Hh (Only.refl _)⟩
 case round =>
  obtain ⟨k,hk,rfl,hL,hO⟩:=hrel;have cw:=hO.out.cell hc hb
  by_cases hlt:k<hs.length
  ·have hltI:(k:Int)<hs.length:=by omega
   have e1:(0:Int)≤k∧(k:Int)<hs.length:=by omega
   have e3:IntKind.i64.wrap ((k:Int)+1)=((k+1:Nat):Int):=by rw [IntKind.wrap_i64];omega
   obtain ⟨gv,ov,l,long,m,rfl,hkk,d0,d1,d2,⟨A1,n1,c1,rfl⟩,A2,n2,c2,rfl⟩:=held_at ((HH.out.only (RH.same w wr) hO.out HV.out).rep) hlt;have hmn:0≤m∧m≤1000000000:=HNN.out k _ hkk;have hE:=hL.out.each k _ hkk;have hfk:upTo k (markF some hs f) f k=f k:=by unfold upTo;rw [if_neg (by omega)]
   rw [hfk] at hE;obtain ⟨_,_,hn1,hn1c,hn1m⟩:=hE.rep.form;obtain rfl:n1=(f k).length:=by injection hn1
   have hml1:(f k).length≤9223372036854775807:=Nat.le_trans hn1c hn1m;clear hn1;have HE:=Hh hE;clear hE;go_wp2_with fail;have h3:=heap_alloc_new wr (.cells #[.slice A1 (f k).length c1,.slice A2 n2 c2,.int .i64 m] 160);have F1:=Fut.alloc wr (.cells #[.slice A1 (f k).length c1,.slice A2 n2 c2,.int .i64 m] 160);obtain ⟨w1,hw1⟩:∃ W,wr.alloc (.cells #[.slice A1 (f k).length c1,.slice A2 n2 c2,.int .i64 m] 160)=W:=⟨_,rfl⟩
   rw [hw1] at h3 F1 ⊢;clear hw1;have HE1:=Hh (HE.out.fut RQTextList.stays F1);have hbl:=HE.out.block;have F1':=Hh F1;clear F1;go_loopw [4] (fun i wq => ∃ q:Nat,q≤(f k).length∧i = .int .i64 q∧Hid (OwnL 1 B 76 (RQTextList NB) wq (.slice A1 (f k).length c1) (List.replicate q (some m)++(f k).drop q))∧Hid (Only (fun j => (Value.slice A1 (f k).length c1).ownBlock=some j) w1 wq)) (fun i _ => (f k).length - (intOf i).toNat)
   case atStart => exact ⟨0,Nat.zero_le _,rfl,HE1,Hh (Only.refl _)⟩
   case round =>
    obtain ⟨q,hq,rfl,hE2,hO2⟩:=hrel;have b3:=hO2.out.keeps h3 (fun h => by have:=(hbl _ h).2;omega);have t0:=cell_at b3 0 (.slice A1 (f k).length c1) rfl;have t2:=cell_at b3 2 (.int .i64 m) rfl
    by_cases hql:q<(f k).length
    ·have hqI:(q:Int)<(f k).length:=by omega
     have e2:(0:Int)≤q∧(q:Int)<(f k).length:=by omega
     have e4:IntKind.i64.wrap ((q:Int)+1)=((q+1:Nat):Int):=by rw [IntKind.wrap_i64];omega
     have hll:(List.replicate q (some m)++(f k).drop q).length=(f k).length:=by rw [List.length_append,List.length_replicate,List.length_drop];omega
     obtain ⟨g,arr,rfl,hlx,hg,hsz⟩:=hE2.out.arr (q:=q) (by rw [hll];exact hql);clear hlx hll;have HPq:=Hh (fun W (hW:Fut wr W) => (⟨HPW.out W ((((hO.out.mono fun j _ hs' => (HLt.out j hs').1).trans (Only.fut F1'.out)).trans ((hO2.out.mono fun j _ hj => (hbl j hj).1).trans (Only.fut hW)))),Nat.le_trans HNB.out (Only.size ((((hO.out.mono fun j _ hs' => (HLt.out j hs').1).trans (Only.fut F1'.out)).trans ((hO2.out.mono fun j _ hj => (hbl j hj).1).trans (Only.fut hW)))))⟩:Pows W∧NB≤W.heap.size));go_wp2_with fail;refine wp_graph 6 [.d,.d,.d,.d,.d,.r (fun v w => ∃ b,v = .slice (some ⟨b,0,none⟩) 1 1∧NB≤b∧w.heap[b]?=some (.cells #[.string (wordN m)] 9 (0,0)))] (by kernel_rfl) (by kernel_rfl) (by kernel_rfl) ?_;simp only [takS,Exs]
     iterate 5 apply Exists.intro
     apply Run.valG (wanted_none rfl _)
     ·intro w1 h1 hk;go_simp;rfl
     simp only [actS];apply Run.valG (wanted_none rfl _)
     ·intro w1 h1 hk;have q0:=h1.cell t0;have q2:=h1.cell t2;have hcw:=fun b o => Below.cell (p:=⟨b,o,none⟩) h1;go_simp;rfl
     simp only [actS]
     iterate 2
      apply Run.valG (wanted_none rfl _)
      ·intro w1 h1 hk;go_simp;rfl
      simp only [actS]
     apply Run.valG (wanted_none rfl _)
     ·intro w1 h1 hk;have q0:=h1.cell t0;have q2:=h1.cell t2;have hcw:=fun b o => Below.cell (p:=⟨b,o,none⟩) h1;go_simp;rfl
     simp only [actS];apply Run.callR (wanted_none rfl _) (by intro v w w' hf hs;exact (by obtain ⟨b,h7,h6,h8⟩:=hs;exact ⟨b,h7,h6,hf.block h8⟩)) (fun _ _ => by go_simp;exact ⟨rfl,rfl⟩)
     ·intro w1 h1 hk;have q0:=h1.cell t0;have q2:=h1.cell t2;refine (markTextList_q m hmn.1 hmn.2 _ (HPq.out _ ((Fut.drew _).trans h1)).1).mono ?_;rintro e w' ⟨b,rfl,hle,hb,hf⟩;exact ⟨_,rfl,hf,b,rfl,Nat.le_trans (HPq.out _ ((Fut.drew _).trans h1)).2 hle,hb⟩
     intro v5;simp only [actS];apply Run.done;intro w2 h2 hk;obtain ⟨f5,_⟩:=hk;have F2:=(Fut.drew _).trans h2;have hg2:=F2.block hg;obtain ⟨b9,hv9,hn9,hb9⟩:=f5;subst hv9;have x2:=cell_at hg2 q arr[q] (by simp);have z2:=free_at hg2 q;go_wp2;have OS:Only (fun j => j=g) w2 (w2.setCell ⟨g,q,none⟩ (.slice (some ⟨b9,0,none⟩) 1 1)):=Only.set _ _ rfl;have hW:=(hE2.out.fut RQTextList.stays F2).write hg2 (set_blk hg2 (i:=q) (v:=.slice (some ⟨b9,0,none⟩) 1 1)) (k:=q) (by rw [List.length_append,List.length_replicate,List.length_drop];omega) (cs:=[.slice (some ⟨b9,0,none⟩) 1 1]) (y:=some m) (set1_spec (by omega)) rfl (RQTextList.onlyT OS (fun k hk => by rw [show k=g from hk];exact .inr (notLTextList hg2)) _ _ (mkTextList hn9 hb9)) (RQTextList.onlyT OS fun k hk => by rw [show k=g from hk];exact .inr (notLTextList hg2));rw [mark_set hql] at hW;go_roundw
     case rel => exact ⟨q+1,by omega,by go_num,Hh hW,Hh (hO2.out.trans ((Only.fut F2).trans (OS.mono fun j _ hj => by have hj':j=g:=hj;rw [hj'];rfl)))⟩
     case measure => simp [intOf] <;> omega
    ·obtain rfl:q=(f k).length:=by omega
     have hE3:=hE2.out;rw [List.drop_length,List.append_nil] at hE3;have hf:=(Only.fut F1'.out).trans hO2.out;have HE3:=Hh hE3;have HF:=Hh hf;clear hE3 hf hE2 hO2;go_wp2;go_roundw
     case rel => exact ⟨k+1,by omega,by go_num,Hh (hL.out.step (RQTextList.onlyT HF.out fun j hj => by obtain ⟨_,h9⟩:=HE.out.typed j hj;exact .inr (notLTextList h9)) hkk HF.out HE3.out (markF_at hkk)),Hh (hO.out.trans (HF.out.mono fun j _ hj => ⟨k,_,hkk,hj⟩))⟩
     case measure => simp [intOf] <;> omega
  ·obtain rfl:k=hs.length:=by omega
   go_wp2;go_end0;exact ⟨⟨_,rfl⟩,hL.out.cong fun i hi => (by unfold upTo;rw [if_pos hi]),hO.out⟩
set_option maxHeartbeats 1600000 in
set_option maxRecDepth 100000 in
theorem growTextList_q {B:Nat} {w:World} {b:Nat} {v:Value} {hs:List Hd} {ns:Nat→Nat} (hc:w.cell? ⟨b,13,none⟩=some v) (hH:OwnL 3 B 160 RH w v hs) (hL:Lists 1 B 76 (RQTextList NB) w hs (fun i => List.replicate (ns i) (some ((hs.getD i ⟨.slice none 0 0,.slice none 0 0,0⟩).n))))
    (hb:¬ ownsL hs b) (hvb:v.ownBlock≠some b) (hv:∀ k,v.ownBlock=some k→¬ ownsL hs k) (hB:B≤w.heap.size) (hns:∀ i,i<hs.length→ns i+70≤5864062014805) (hPW:∀ W,Only (fun k => B≤k) w W→Pows W) (hNN:∀ (i:Nat) (h:Hd),hs[i]?=some h→0≤h.n∧h.n≤1000000000) (hNB:NB≤w.heap.size) :
    Calls Tryz.prog 145 #[.pointer (some ⟨b,0,none⟩)] w fun e w' => (∃ u,e = .returned u)∧∃ hs',Grow 1 B 76 160 (RQTextList NB) some w v hs ns hs.length w' hs':=by
 have HPW:=Hh hPW;have HNN:=Hh hNN;have HNB:=Hh hNB;clear hPW hNN hNB;have hlow:∀ x,ownsL hs x→x<w.heap.size:=fun x hx => (hL.lt x hx).2;have hvw:∀ x,v.ownBlock=some x→x<w.heap.size∧¬ ownsL hs x:=fun x hx => ⟨(hH.block x hx).2,hv x hx⟩
 have G0:Grow 1 B 76 160 (RQTextList NB) some w v hs ns 0 w hs:=⟨hH,rfl,fun _ _ => rfl,fun i h hi => absurd hi (by omega),fun i h _ hi => (by
  have h1:=hL.each i h hi;have h2:hs.getD i ⟨.slice none 0 0,.slice none 0 0,0⟩=h:=by rw [List.getD_eq_getElem?_getD,hi];rfl
  simp only [h2] at h1;exact h1),Only.refl _⟩
 have HLt:=Hh hL.lt;have HVt:=Hh hH.block;have HG0:=Hh G0;have HA:=Hh hL.apart;have HLO:=Hh hlow;have HV:=Hh hvw;have HNS:=Hh hns;have hB0:b<w.heap.size:=lt_of_cell hc;have hcb:¬ (ownsL hs b∨v.ownBlock=some b):=fun h => h.elim hb hvb;obtain ⟨A,cap,rfl,hcl,hcm⟩:=hH.rep.form;have hml:hs.length≤9223372036854775807:=Nat.le_trans hcl hcm;clear hH hL hv hlow hvw G0 hns;go_enter Tryz.func145,Tryz.ntmps145;go_wp2_with fail;go_loopw [2] (fun i wr => ∃ k:Nat,k≤hs.length∧i = .int .i64 k∧Hid (∃ hs',Grow 1 B 76 160 (RQTextList NB) some w (.slice A hs.length cap) hs ns k wr hs')) (fun i _ => hs.length - (intOf i).toNat)
 case atStart => exact ⟨0,Nat.zero_le _,rfl,Hh ⟨_,HG0.out⟩⟩
 case round =>
  obtain ⟨k,hk,rfl,hG⟩:=hrel;obtain ⟨hs',hG⟩:=hG.out;have cw:=hG.only.cell hc hcb;have hws:=hG.only.size
  by_cases hlt:k<hs.length
  ·have hltI:(k:Int)<hs.length:=by omega
   have e1:(0:Int)≤k∧(k:Int)<hs.length:=by omega
   have e3:IntKind.i64.wrap ((k:Int)+1)=((k+1:Nat):Int):=by rw [IntKind.wrap_i64];omega
   obtain ⟨gv,ov,l,long,m,rfl,hkk,d0,d1,d2,⟨A1,n1,c1,rfl⟩,A2,n2,c2,rfl⟩:=held_at hG.held.rep (k:=k) (by rw [hG.len];exact hlt);have hkk':=hkk;rw [hG.rest k (Nat.le_refl _)] at hkk;have hmn:0≤m∧m≤1000000000:=HNN.out k _ hkk;have hE:=hG.todo k _ (Nat.le_refl _) hkk;obtain ⟨Aq,cq,hn1,hn1c,hn1m⟩:=hE.rep.form;rw [List.length_replicate] at hn1 hn1c;obtain rfl:n1=ns k:=by injection hn1
   clear hn1;have hnk:=HNS.out k hlt;have hat0:=hE.at0;obtain ⟨gv',arrv,hgv',hlx,hgv,hszv⟩:=hG.held.arr (q:=k) (by rw [hG.len];exact hlt);injection hgv' with hgv'
   injection hgv' with q1 q2
   subst q1 q2;rw [Nat.zero_add] at d0 d1 d2;have HE:=Hh hE;have HG:=Hh hG;clear hE hG hlx;go_wp2_with fail;have h3:=heap_alloc_new wr (.cells #[.slice A1 (ns k) c1,.slice A2 n2 c2,.int .i64 m] 160);have F1:=Fut.alloc wr (.cells #[.slice A1 (ns k) c1,.slice A2 n2 c2,.int .i64 m] 160);obtain ⟨w1,hw1⟩:∃ W,wr.alloc (.cells #[.slice A1 (ns k) c1,.slice A2 n2 c2,.int .i64 m] 160)=W:=⟨_,rfl⟩
   rw [hw1] at h3 F1 ⊢;clear hw1;have HE1:=Hh (HE.out.fut RQTextList.stays F1);have hbl:=HE.out.block;have hs1:=F1.size;have F1':=Hh F1;have HL1:=Hh (HE1.out.rep);clear F1;go_loopw [4,5] (fun L i wq => ∃ q:Nat,q≤70∧i = .int .i64 q∧Hid (OwnL 1 B 76 (RQTextList NB) wq L (List.replicate (ns k+q) (some m)))∧Hid (SlRep 1 maxLen (RQTextList NB) wq (.slice A1 (ns k) c1) (List.replicate (ns k) (some m)))∧Hid (∀ x,L.ownBlock=some x→(Value.slice A1 (ns k) c1).ownBlock=some x∨w1.heap.size≤x)∧Hid (Only (fun j => (Value.slice A1 (ns k) c1).ownBlock=some j) w1 wq)) (fun _ i _ => 70 - (intOf i).toNat)
   case atStart => exact ⟨0,Nat.zero_le _,rfl,HE1,HL1,Hh (fun x hx => .inl hx),Hh (Only.refl _)⟩
   case round =>
    obtain ⟨q,hq,rfl,hL2,hS2,hB2,hO2⟩:=hrel;have b3:=hO2.out.keeps h3 (fun h => by have:=(hbl _ h).2;omega);have t2:=cell_at b3 2 (.int .i64 m) rfl;have hs2:=hO2.out.size
    by_cases hql:q<70
    ·have hqI:(q:Int)<70:=by omega
     have e4:IntKind.i64.wrap ((q:Int)+1)=((q+1:Nat):Int):=by rw [IntKind.wrap_i64];omega
     have HPq:=Hh (fun W (hW:Fut wr W) => (⟨HPW.out W ((((HG.out.only.mono fun j _ hj => hj.elim (fun h => (HLt.out j h).1) (fun h => (HVt.out j h).1)).trans (Only.fut F1'.out)).trans ((hO2.out.mono fun j _ hj => (hbl j hj).1).trans (Only.fut hW)))),Nat.le_trans HNB.out (Only.size ((((HG.out.only.mono fun j _ hj => hj.elim (fun h => (HLt.out j h).1) (fun h => (HVt.out j h).1)).trans (Only.fut F1'.out)).trans ((hO2.out.mono fun j _ hj => (hbl j hj).1).trans (Only.fut hW)))))⟩:Pows W∧NB≤W.heap.size));go_wp2_with fail;refine (markTextList_q m hmn.1 hmn.2 _ (HPq.out _ (Fut.refl _)).1).mono ?_;rintro e wm ⟨b9,rfl,hle9,hb9,hfm⟩;have hn9:=Nat.le_trans (HPq.out _ (Fut.refl _)).2 hle9;have hOa:=hL2.out.fut RQTextList.stays (hfm.trans (Fut.alloc wm (.cells #[.slice (some ⟨b9,0,none⟩) 1 1] 76)));have hRk9:∀ (w':World) cs (x:Option Int),(RQTextList NB) (wm.alloc (.cells #[.slice (some ⟨b9,0,none⟩) 1 1] 76)) cs x→World.grownBy (wm.alloc (.cells #[.slice (some ⟨b9,0,none⟩) 1 1] 76)) w' u4.ownBlock→(RQTextList NB) w' cs x:=fun w' cs x h hg => RQTextList.onlyT (Only.grown (S:=fun j => u4.ownBlock=some j) hg fun k hk => hk) (fun j hj => by obtain ⟨_,h9⟩:=hOa.typed j hj;exact .inr (notLTextList h9)) cs x h;have hy9:(RQTextList NB) (wm.alloc (.cells #[.slice (some ⟨b9,0,none⟩) 1 1] 76)) _ _:=mkTextList hn9 ((Fut.alloc wm (.cells #[.slice (some ⟨b9,0,none⟩) 1 1] 76)).block hb9);have hba:=heap_alloc_new wm (.cells #[.slice (some ⟨b9,0,none⟩) 1 1] 76);have hza:(wm.alloc (.cells #[.slice (some ⟨b9,0,none⟩) 1 1] 76)).heap.size=wm.heap.size+1:=by simp
     have HZa:=Hh hza;have hsm:=hfm.size;have hbs:B≤(wm.alloc (.cells #[.slice (some ⟨b9,0,none⟩) 1 1] 76)).heap.size:=by omega
     have FA:=Hh (hfm.trans (Fut.alloc wm (.cells #[.slice (some ⟨b9,0,none⟩) 1 1] 76)));clear hza;go_wp2_with (first|(refine wpList_append1 (P:=Tryz.prog) (e:=76) (e':=76) (cs:=(#[.slice (some ⟨b9,0,none⟩) 1 1]:Array Value).toList) (y:=some m) (wanted_none rfl _) _ _ rfl Tryz.underlying25 infoQTextList rfl (by omega) RQTextList.one hRk9 rfl rfl hOa hba rfl hy9 (by rw [List.length_replicate];unfold maxLen;omega) (by rw [List.length_replicate];omega) hbs ?_;intro v8 w8 hO8 hG8 hB8));have hre:List.replicate (ns k+q) (some m)++[some m]=List.replicate (ns k+(q+1)) (some m):=by rw [show ns k+(q+1)=(ns k+q)+1 by omega,List.replicate_succ']
     have hkp:=append_keep (RQTextList.onlyT (Only.grown (S:=fun j => u4.ownBlock=some j) hG8 fun k hk => hk) fun j hj => by obtain ⟨_,h9⟩:=hOa.typed j hj;exact .inr (notLTextList h9)) (hS2.out.fut RQTextList.stays FA.out) hat0 (by rw [List.take_replicate,Nat.min_eq_left (by omega)]) (by rw [List.length_replicate];omega) hG8 hO8 hB8;rw [hre] at hO8;have hO9:=(hO2.out.trans (Only.fut FA.out)).then (Only.grown (S:=fun j => u4.ownBlock=some j) hG8 fun j hj => hj) (fun j hj hlt => (hB2.out j hj).elim id fun h => absurd hlt (by omega));go_roundw
     case rel => exact ⟨q+1,by omega,by go_num,Hh hO8,Hh hkp,Hh (fun x hx => by
      rcases hB8 with h8|⟨h8,_⟩
      ·exact hB2.out x (h8 ▸ hx)
      ·rw [h8] at hx;have:=HZa.out;injection hx with hx
       exact .inr (by omega)),Hh hO9⟩
     case measure => simp [intOf] <;> omega
    ·obtain rfl:q=70:=by omega
     obtain ⟨A4,c4,hu4,h4c,h4m⟩:=hL2.out.rep.form;rw [List.length_replicate] at hu4 h4c;subst hu4;have hf:=(Only.fut F1'.out).trans hO2.out;have hgvl:gv<w.heap.size∧¬ ownsL hs gv:=HV.out gv rfl;have hngv:¬ (Value.slice A1 (ns k) c1).ownBlock=some gv:=fun h => hgvl.2 ⟨k,_,hkk,h⟩;have bgv:=hf.keeps hgv hngv;have cwb:=hf.cell cw (fun h => hb ⟨k,_,hkk,h⟩);have a0:=arr_of_cell hgv d0;have a2:=arr_of_cell hgv d2;have x1:wr.cell? ⟨gv,k * 3+1,none⟩=some (.slice A2 n2 c2):=hf.cell d1 hngv;have z1:=free_at bgv (k * 3+1);have hh:=(HG.out.held.only (RH.same _ _) hf fun x hx hx2 => (HV.out x hx).2 ⟨k,_,hkk,hx2⟩).write bgv (set_blk bgv (i:=k * 3+1) (v:=.slice A4 (ns k+70) c4)) (k:=k) (by rw [HG.out.len];exact hlt) (cs:=Hd.cells ⟨.slice A1 (ns k) c1,.slice A4 (ns k+70) c4,m⟩) (y:=⟨.slice A1 (ns k) c1,.slice A4 (ns k+70) c4,m⟩) (set_held a0 a2) rfl ⟨rfl,⟨_,_,_,rfl⟩,_,_,_,rfl⟩ (RH.same _ _);have OS:Only (fun j => (Value.slice (some ⟨gv,0,none⟩) hs.length cap).ownBlock=some j) wr (wr.setCell ⟨gv,k * 3+1,none⟩ (.slice A4 (ns k+70) c4)):=Only.set _ _ rfl;have HST:=Hh (HG.out.step (RQTextList.onlyT hf fun j hj => by obtain ⟨_,h9⟩:=HE.out.typed j hj;exact .inr (notLTextList h9)) (RQTextList.onlyT OS fun j hj => by obtain rfl:gv=j:=Option.some.inj hj;exact .inr (notHTextList bgv)) HA.out HLO.out HV.out hkk hf hS2.out hL2.out.rep (fun x hx => (hB2.out x hx).imp id fun h => Nat.le_trans hs1 h) OS hh);clear hh hf;go_wp2;go_roundw
     case rel => exact ⟨k+1,by omega,by go_num,Hh ⟨_,HST.out⟩⟩
     case measure => simp [intOf] <;> omega
  ·obtain rfl:k=hs.length:=by omega
   have HG:=Hh hG;clear hG;go_wp2;go_end0;exact ⟨⟨_,rfl⟩,_,HG.out⟩
set_option maxHeartbeats 1600000 in
set_option maxRecDepth 100000 in
theorem lookTextList_q {M:Nat} {w:World} {b:Nat} {v:Value} {hs:List Hd} {ns:Nat→Nat} (hc:w.cell? ⟨b,13,none⟩=some v) (hH:SlRep 3 maxLen RH w v hs)
    (hl:∀ (i:Nat) (h:Hd),hs[i]?=some h→SlRep 1 maxLen (RQTextList NB) w h.l (List.replicate (ns i) (some h.n))∧SlRep 1 maxLen (RQTextList NB) w h.long (List.replicate (ns i+70) (some h.n))) (hns:∀ i,i<hs.length→ns i+70≤5864062014805) (hPW:∀ W,Fut w W→Pows W) (hNN:∀ (i:Nat) (h:Hd),hs[i]?=some h→0≤h.n∧h.n≤1000000000) :
    Calls Tryz.prog 176 #[.pointer (some ⟨b,0,none⟩)] w fun e w' => e = .returned (.bool true)∧Fut w w':=by
 have HPW:=Hh hPW;have HNN:=Hh hNN;clear hPW hNN;have HH:=Hh hH;have HL:=Hh hl;have HNS:=Hh hns;obtain ⟨A,cap,rfl,hcl,hcm⟩:=hH.form;have hml:hs.length≤9223372036854775807:=Nat.le_trans hcl hcm;clear hH hl hns;go_enter Tryz.func176,Tryz.ntmps176;go_wp2_with fail;go_loopw [3] (fun i wr => ∃ k:Nat,k≤hs.length∧i = .int .i64 k∧Hid (Fut w wr)) (fun i _ => hs.length - (intOf i).toNat)
 case atStart => exact ⟨0,Nat.zero_le _,rfl,Hh (Fut.refl _)⟩
 case round =>
  obtain ⟨k,hk,rfl,hG⟩:=hrel;have cw:=hG.out.cell hc
  by_cases hlt:k<hs.length
  ·have hltI:(k:Int)<hs.length:=by omega
   have e1:(0:Int)≤k∧(k:Int)<hs.length:=by omega
   have e3:IntKind.i64.wrap ((k:Int)+1)=((k+1:Nat):Int):=by rw [IntKind.wrap_i64];omega
   obtain ⟨gv,ov,l,long,m,rfl,hkk,d0,d1,d2,⟨A1,n1,c1,rfl⟩,A2,n2,c2,rfl⟩:=held_at (HH.out.fut RH.stays hG.out) hlt;have hmn:0≤m∧m≤1000000000:=HNN.out k _ hkk;obtain ⟨hl1,hl2⟩:=HL.out k _ hkk;have hnk:=HNS.out k hlt;obtain ⟨Aq,cq,hn1,_⟩:=hl1.form;obtain ⟨Ar,cr,hn2,_⟩:=hl2.form;rw [List.length_replicate] at hn1 hn2;obtain rfl:n1=ns k:=by injection hn1
   obtain rfl:n2=ns k+70:=by injection hn2
   have e5:IntKind.i64.wrap ((ns k:Int)+70)=(ns k:Int)+70:=by rw [IntKind.wrap_i64];omega
   have HL1:=Hh (hl1.fut RQTextList.stays hG.out);have HL2:=Hh (hl2.fut RQTextList.stays hG.out);clear hn1 hn2 hl1 hl2;go_wp2_with fail;have h3:=heap_alloc_new wr (.cells #[.slice A1 (ns k) c1,.slice A2 (ns k+70) c2,.int .i64 m] 160);have F1:=Fut.alloc wr (.cells #[.slice A1 (ns k) c1,.slice A2 (ns k+70) c2,.int .i64 m] 160);obtain ⟨w1,hw1⟩:∃ W,wr.alloc (.cells #[.slice A1 (ns k) c1,.slice A2 (ns k+70) c2,.int .i64 m] 160)=W:=⟨_,rfl⟩
   rw [hw1] at h3 F1 ⊢;clear hw1;have F1':=Hh F1;clear F1;go_loopw [5] (fun i wq => ∃ q:Nat,q≤ns k+70∧i = .int .i64 q∧Hid (Fut w1 wq)) (fun i _ => ns k+70 - (intOf i).toNat)
   case atStart => exact ⟨0,Nat.zero_le _,rfl,Hh (Fut.refl _)⟩
   case round =>
    obtain ⟨q,hq,rfl,hG2⟩:=hrel;have b3:=hG2.out.block h3;have t0:=cell_at b3 0 (.slice A1 (ns k) c1) rfl;have t1:=cell_at b3 1 (.slice A2 (ns k+70) c2) rfl;have t2:=cell_at b3 2 (.int .i64 m) rfl;have HPq:=Hh (fun W (hW:Fut wr W) => HPW.out W (hG.out.trans (F1'.out.trans (hG2.out.trans hW))))
    by_cases hql:q<ns k+70
    ·have hqI:(q:Int)<(ns k:Int)+70:=by omega
     have e2:(0:Int)≤q∧(q:Int)<(ns k:Int)+70:=by omega
     have e4:IntKind.i64.wrap ((q:Int)+1)=((q+1:Nat):Int):=by rw [IntKind.wrap_i64];omega
     obtain ⟨gl,ol,brl,rfl,rl,rlw⟩:=atTextList_markQ (HL2.out.fut RQTextList.stays (F1'.out.trans hG2.out)) (k:=q) hql
     by_cases hqs:q<ns k
     ·have hqsI:(q:Int)<(ns k:Int):=by omega
      have e6:(0:Int)≤q∧(q:Int)<(ns k:Int):=by omega
      obtain ⟨gs,os,brs,rfl,rs,rsw⟩:=atTextList_markQ (HL1.out.fut RQTextList.stays (F1'.out.trans hG2.out)) (k:=q) hqs;go_wp2_with fail;refine wp_graph 27 [.d,.d,.d,.d,.d,.d,.d,.d,.d,.d,.d,.d,.d,.d,.d,.d,.d,.d,.d,.d,.d,.d,.d,.d,.d,.d,.d] (by kernel_rfl) (by kernel_rfl) (by kernel_rfl) ?_;simp only [takS,Exs]
      iterate 27 apply Exists.intro
      apply Run.valG (wanted_none rfl _)
      ·intro w1 h1 hk;go_simp;rfl
      simp only [actS];apply Run.valG (wanted_none rfl _)
      ·intro w1 h1 hk;have q0:=h1.cell t0;have q1:=h1.cell t1;have q2:=h1.cell t2;have hg:=(Fut.drew _).trans h1;have hcw:=fun b o => Below.cell (p:=⟨b,o,none⟩) h1;go_simp;rfl
      simp only [actS]
      iterate 2
       apply Run.valG (wanted_none rfl _)
       ·intro w1 h1 hk;go_simp;rfl
       simp only [actS]
      apply Run.valG (wanted_none rfl _)
      ·intro w1 h1 hk;have q0:=h1.cell t0;have q1:=h1.cell t1;have q2:=h1.cell t2;have hg:=(Fut.drew _).trans h1;have hcw:=fun b o => Below.cell (p:=⟨b,o,none⟩) h1
       (have q9:=hg.cell rl;go_simp;rfl)
      simp only [actS];apply Run.valG (wanted_none rfl _)
      ·intro w1 h1 hk;go_simp;rfl
      simp only [actS];apply Run.valG (wanted_none rfl _)
      ·intro w1 h1 hk;have q0:=h1.cell t0;have q1:=h1.cell t1;have q2:=h1.cell t2;have hg:=(Fut.drew _).trans h1;have hcw:=fun b o => Below.cell (p:=⟨b,o,none⟩) h1;go_simp;rfl
      simp only [actS];apply Run.call (wanted_none rfl _) (fun _ _ => by go_simp;exact ⟨rfl,rfl⟩)
      ·intro w1 h1 hk;have q0:=h1.cell t0;have q1:=h1.cell t1;have q2:=h1.cell t2;have hg:=(Fut.drew _).trans h1;refine (isTextList_q m hmn.1 hmn.2 brl _ (HPq.out _ hg) (hg.block rlw)).mono ?_;rintro e w' ⟨rfl,hf⟩;exact ⟨rfl,hf⟩
      simp only [actS]
      iterate 2
       apply Run.valG (wanted_none rfl _)
       ·intro w1 h1 hk;go_simp;rfl
       simp only [actS]
      iterate 2
       apply Run.valG (by go_simp)
       ·intro w1 h1 hk;go_simp;rfl
       simp only [actS]
      iterate 2
       apply Run.valG (by go_simp)
       ·intro w1 h1 hk;have q0:=h1.cell t0;have q1:=h1.cell t1;have q2:=h1.cell t2;have hg:=(Fut.drew _).trans h1;have hcw:=fun b o => Below.cell (p:=⟨b,o,none⟩) h1;go_simp;rfl
       simp only [actS]
      iterate 3
       apply Run.valG (by go_simp)
       ·intro w1 h1 hk;go_simp;rfl
       simp only [actS]
      apply Run.valG (by go_simp)
      ·intro w1 h1 hk;have q0:=h1.cell t0;have q1:=h1.cell t1;have q2:=h1.cell t2;have hg:=(Fut.drew _).trans h1;have hcw:=fun b o => Below.cell (p:=⟨b,o,none⟩) h1;go_simp;rfl
      simp only [actS]
      iterate 2
       apply Run.valG (by go_simp)
       ·intro w1 h1 hk;go_simp;rfl
       simp only [actS]
      apply Run.valG (by go_simp)
      ·intro w1 h1 hk;have q0:=h1.cell t0;have q1:=h1.cell t1;have q2:=h1.cell t2;have hg:=(Fut.drew _).trans h1;have hcw:=fun b o => Below.cell (p:=⟨b,o,none⟩) h1
       (have q9:=hg.cell rs;go_simp;rfl)
      simp only [actS];apply Run.valG (by go_simp)
      ·intro w1 h1 hk;go_simp;rfl
      simp only [actS];apply Run.valG (by go_simp)
      ·intro w1 h1 hk;have q0:=h1.cell t0;have q1:=h1.cell t1;have q2:=h1.cell t2;have hg:=(Fut.drew _).trans h1;have hcw:=fun b o => Below.cell (p:=⟨b,o,none⟩) h1;go_simp;rfl
      simp only [actS];apply Run.call (by go_simp) (fun _ _ => by go_simp;exact ⟨rfl,rfl⟩)
      ·intro w1 h1 hk;have q0:=h1.cell t0;have q1:=h1.cell t1;have q2:=h1.cell t2;have hg:=(Fut.drew _).trans h1;refine (isTextList_q m hmn.1 hmn.2 brs _ (HPq.out _ hg) (hg.block rsw)).mono ?_;rintro e w' ⟨rfl,hf⟩;exact ⟨rfl,hf⟩
      simp only [actS]
      iterate 2
       apply Run.valG (by go_simp)
       ·intro w1 h1 hk;go_simp;rfl
       simp only [actS]
      apply Run.valG (wanted_none rfl _)
      ·intro w1 h1 hk;go_simp;rfl
      simp only [actS];apply Run.done;intro w2 h2 hk;clear hk;go_wp2;go_roundw
      case rel => exact ⟨q+1,by omega,by go_num,Hh (hG2.out.trans ((Fut.drew _).trans h2))⟩
      case measure => simp [intOf] <;> omega
     ·have hqsI:¬ (q:Int)<(ns k:Int):=by omega
      go_wp2_with fail;refine wp_graph 27 [.d,.d,.d,.d,.d,.d,.d,.d,.d,.d,.d,.d,.d,.d,.d,.d,.d,.d,.d,.d,.d,.d,.d,.d,.d,.d,.d] (by kernel_rfl) (by kernel_rfl) (by kernel_rfl) ?_;simp only [takS,Exs]
      iterate 27 apply Exists.intro
      apply Run.valG (wanted_none rfl _)
      ·intro w1 h1 hk;go_simp;rfl
      simp only [actS];apply Run.valG (wanted_none rfl _)
      ·intro w1 h1 hk;have q0:=h1.cell t0;have q1:=h1.cell t1;have q2:=h1.cell t2;have hg:=(Fut.drew _).trans h1;have hcw:=fun b o => Below.cell (p:=⟨b,o,none⟩) h1;go_simp;rfl
      simp only [actS]
      iterate 2
       apply Run.valG (wanted_none rfl _)
       ·intro w1 h1 hk;go_simp;rfl
       simp only [actS]
      apply Run.valG (wanted_none rfl _)
      ·intro w1 h1 hk;have q0:=h1.cell t0;have q1:=h1.cell t1;have q2:=h1.cell t2;have hg:=(Fut.drew _).trans h1;have hcw:=fun b o => Below.cell (p:=⟨b,o,none⟩) h1
       (have q9:=hg.cell rl;go_simp;rfl)
      simp only [actS];apply Run.valG (wanted_none rfl _)
      ·intro w1 h1 hk;go_simp;rfl
      simp only [actS];apply Run.valG (wanted_none rfl _)
      ·intro w1 h1 hk;have q0:=h1.cell t0;have q1:=h1.cell t1;have q2:=h1.cell t2;have hg:=(Fut.drew _).trans h1;have hcw:=fun b o => Below.cell (p:=⟨b,o,none⟩) h1;go_simp;rfl
      simp only [actS];apply Run.call (wanted_none rfl _) (fun _ _ => by go_simp;exact ⟨rfl,rfl⟩)
      ·intro w1 h1 hk;have q0:=h1.cell t0;have q1:=h1.cell t1;have q2:=h1.cell t2;have hg:=(Fut.drew _).trans h1;refine (isTextList_q m hmn.1 hmn.2 brl _ (HPq.out _ hg) (hg.block rlw)).mono ?_;rintro e w' ⟨rfl,hf⟩;exact ⟨rfl,hf⟩
      simp only [actS]
      iterate 2
       apply Run.valG (wanted_none rfl _)
       ·intro w1 h1 hk;go_simp;rfl
       simp only [actS]
      iterate 2
       apply Run.valG (by go_simp)
       ·intro w1 h1 hk;go_simp;rfl
       simp only [actS]
      iterate 2
       apply Run.valG (by go_simp)
       ·intro w1 h1 hk;have q0:=h1.cell t0;have q1:=h1.cell t1;have q2:=h1.cell t2;have hg:=(Fut.drew _).trans h1;have hcw:=fun b o => Below.cell (p:=⟨b,o,none⟩) h1;go_simp;rfl
       simp only [actS]
      iterate 2
       apply Run.valG (by go_simp)
       ·intro w1 h1 hk;go_simp;rfl
       simp only [actS]
      iterate 9
       apply Run.skip (by first|(go_simp;done)|(go_simp;exact fun h => nomatch h));simp only [actS]
      apply Run.valG (by go_simp)
      ·intro w1 h1 hk;go_simp;rfl
      simp only [actS];apply Run.valG (wanted_none rfl _)
      ·intro w1 h1 hk;go_simp;rfl
      simp only [actS];apply Run.done;intro w2 h2 hk;clear hk;go_wp2;go_roundw
      case rel => exact ⟨q+1,by omega,by go_num,Hh (hG2.out.trans ((Fut.drew _).trans h2))⟩
      case measure => simp [intOf] <;> omega
    ·obtain rfl:q=ns k+70:=by omega
     go_wp2;go_roundw
     case rel => exact ⟨k+1,by omega,by go_num,Hh (hG.out.trans (F1'.out.trans hG2.out))⟩
     case measure => simp [intOf] <;> omega
  ·obtain rfl:k=hs.length:=by omega
   go_wp2;go_ret;exact ⟨rfl,hG.out⟩
theorem infoHQTextList:(Tryz.prog.info? 160).map (fun i => (i.zero,i.size,i.bytes))=some (some (.agg #[.slice none 0 0,.slice none 0 0,.int .i64 0]),3,56):=by kernel_rfl
set_option maxHeartbeats 1600000 in
set_option maxRecDepth 100000 in
theorem keepTextList_q {B:Nat} {w:World} {b:Nat} {n:Int} {vs:Nat→Value} {hs:List Hd} {Al:Option Addr} {nl cl:Nat} (hb:BookAt 65 w b n vs) (hn:0≤n∧n<1000000000) (hH:OwnL 3 B 160 RH w (vs 13) hs) (hvb:(vs 13).ownBlock≠some b) (hB:B≤w.heap.size) (hl:hs.length<1000000000) :
    Calls Tryz.prog 38 #[.pointer (some ⟨b,0,none⟩),.slice Al nl cl] w fun e w' => (∃ u,e = .returned u)∧∃ v',BookAt 65 w' b (n+1) (updV vs 13 v')∧OwnL 3 B 160 RH w' v' (hs++[⟨.slice Al nl cl,.slice none 0 0,n+1⟩]) ∧
     Only (fun k => k=b∨(vs 13).ownBlock=some k) w w'∧∀ x,v'.ownBlock=some x→(vs 13).ownBlock=some x∨w.heap.size≤x:=by
 have HB:=Hh hb;have HH:=Hh hH;have cn:=hb.num;have zn:=hb.free 0;have hbl:=hb.lt;obtain ⟨A,cap,hv,hcl,hcm⟩:=hH.rep.form;have hvb':∀ x,(vs 13).ownBlock=some x→x≠b∧x<w.heap.size:=fun x hx => ⟨fun e => hvb (e ▸ hx),(hH.block x hx).2⟩
 have HVB:=Hh hvb';have e1:IntKind.i64.wrap (n+1)=n+1:=by rw [IntKind.wrap_i64];omega
 clear hb hH hvb hvb';go_enter Tryz.func38,Tryz.ntmps38;go_wp2_with fail;have O1:Only (fun k => k=b) w (w.setCell ⟨b,0,none⟩ (.int .i64 (n+1))):=Only.set _ _ rfl;have hB1:=HB.out.setN (m:=n+1);obtain ⟨w1,hw1⟩:∃ W,w.setCell ⟨b,0,none⟩ (.int .i64 (n+1))=W:=⟨_,rfl⟩
 rw [hw1] at O1 hB1 ⊢;clear hw1 cn zn;have cv:w1.cell? ⟨b,13,none⟩=some (.slice A hs.length cap):=by rw [← hv];exact hB1.cell (by omega) (by omega)
 have cn:=hB1.num;have HB1:=Hh hB1;have s1:=O1.size;have HH1:=Hh (HH.out.only (RH.same _ _) O1 fun x hx e => (HVB.out x hx).1 e);clear hB1;refine wp_graph0 12 [.d,.d,.d,.d,.d,.d,.d,.d,.d,.d,.d,.r (fun v w => ∃ g,v = .slice (some ⟨g,0,none⟩) 1 1∧w.heap[g]?=some (.cells #[.slice Al nl cl,.slice none 0 0,.int .i64 (n+1)] 160 (0,0)))] (by kernel_rfl) (by kernel_rfl) (by kernel_rfl) (by decide) (by intro c v w a o ho h;obtain rfl:=Option.some.inj ho;exact h) (by kernel_rfl) ?_;simp only [takS,Exs]
 iterate 11 apply Exists.intro
 iterate 2
  apply Run.valG (wanted_none rfl _)
  ·intro w1 h1 hk;go_simp;rfl
  simp only [actS]
 apply Run.valG (wanted_none rfl _)
 ·intro w1 h1 hk;have q0:=h1.cell cv;have q1:=h1.cell cn;have hcw:=fun b o => Below.cell (p:=⟨b,o,none⟩) h1;go_simp;rfl
 simp only [actS];apply Run.valG (wanted_none rfl _)
 ·intro w1 h1 hk;go_simp;rfl
 simp only [actS];apply Run.valG (wanted_none rfl _)
 ·intro w1 h1 hk;have q0:=h1.cell cv;have q1:=h1.cell cn;have hcw:=fun b o => Below.cell (p:=⟨b,o,none⟩) h1;go_simp;rfl
 simp only [actS]
 iterate 2
  apply Run.valG (wanted_none rfl _)
  ·intro w1 h1 hk;go_simp;rfl
  simp only [actS]
 apply Run.valG (wanted_none rfl _)
 ·intro w1 h1 hk;have q0:=h1.cell cv;have q1:=h1.cell cn;have hcw:=fun b o => Below.cell (p:=⟨b,o,none⟩) h1;go_simp;rfl
 simp only [actS];apply Run.valG (wanted_none rfl _)
 ·intro w1 h1 hk;go_simp;rfl
 simp only [actS]
 iterate 2
  apply Run.valG (wanted_none rfl _)
  ·intro w1 h1 hk;have q0:=h1.cell cv;have q1:=h1.cell cn;have hcw:=fun b o => Below.cell (p:=⟨b,o,none⟩) h1;go_simp;rfl
  simp only [actS]
 apply Run.valR (wanted_none rfl _) (by intro v w w' hf hs;exact (by obtain ⟨g,rfl,h⟩:=hs;exact ⟨g,rfl,hf.block h⟩))
 ·intro w1 h1 hk;have q0:=h1.cell cv;have q1:=h1.cell cn;exact ⟨.slice (some ⟨w1.heap.size,0,none⟩) 1 1,_,(by go_simp),Fut.alloc _ _,_,rfl,heap_alloc_new _ _⟩
 intro v11;simp only [actS];apply Run.done;intro w2 h2 hk;obtain ⟨f11,_⟩:=hk;obtain ⟨g,rfl,hg⟩:=f11;have F2:=(Fut.drew _).trans h2;have hOa:=HH1.out.fut RH.stays F2;rw [hv] at hOa;have hB2:=HB1.out.only (S:=fun _ => False) (Only.fut F2) (fun h => h);have hbs:B≤w2.heap.size:=Nat.le_trans hB (Nat.le_trans s1 F2.size);have hvn:¬ (Value.slice A hs.length cap).ownBlock=some b:=fun h => (HVB.out b (hv ▸ h)).1 rfl;clear h2 cv cn;go_wp2_with (first|(refine wpList_append1 (P:=Tryz.prog) (e:=160) (e':=160) (cs:=Hd.cells ⟨.slice Al nl cl,.slice none 0 0,n+1⟩) (y:=⟨.slice Al nl cl,.slice none 0 0,n+1⟩) (wanted_none rfl _) _ _ rfl Tryz.underlying45 infoHQTextList rfl (by omega) RH.one (fun _ cs x h _ => RH.same _ _ cs x h) rfl rfl hOa hg rfl ⟨rfl,⟨_,_,_,rfl⟩,_,_,_,rfl⟩ (by unfold maxLen;omega) (by omega) hbs ?_;intro v3 w3 hO3 hG3 hB3;obtain ⟨A3,c3,hv3,_⟩:=hO3.rep.form;rw [List.length_append,List.length_singleton] at hv3;have O3:Only (fun k => (Value.slice A hs.length cap).ownBlock=some k) w2 w3:=Only.grown hG3 (fun k hk => hk);have hB4:=hB2.only O3 hvn;have x4:=hB4.cell (j:=13) (by omega) (by omega);have z4:=hB4.free 13;subst hv3));go_end0;have OS:Only (fun k => k=b) w3 (w3.setCell ⟨b,13,none⟩ (.slice A3 (hs.length+1) c3)):=Only.set _ _ rfl;have s2:=F2.size
 have hfr:∀ x,(Value.slice A3 (hs.length+1) c3).ownBlock=some x→(vs 13).ownBlock=some x∨w2.heap.size≤x:=fun x hx => by
  rcases hB3 with h|⟨h,_⟩
  ·exact .inl (by rw [hv];exact (show _=(Value.slice A hs.length cap).ownBlock from h).symm.trans hx)
  ·rw [h] at hx;injection hx with hx;exact .inr (by omega)
 refine ⟨⟨_,rfl⟩,_,hB4.setV (by omega) (by omega),hO3.only (RH.same _ _) OS (fun x hx e => ?_),?_,fun x hx => (hfr x hx).imp id fun h => by omega⟩
 ·subst e;rcases hfr _ hx with h|h
  ·exact (HVB.out _ h).1 rfl
  ·omega
 ·rw [hv];exact ((O1.mono fun k _ hk => .inl hk).trans (Only.fut F2)).trans ((O3.mono fun k _ hk => .inr hk).trans (OS.mono fun k _ hk => .inl hk))
def kdTextList (NB:Nat):Kd:=⟨1,76,160,(RQTextList NB),5864062014805⟩
theorem fillAtTextList {hs:List Hd} (hNN:∀ (i:Nat) (h:Hd),hs[i]?=some h→0≤h.n∧h.n≤1000000000):FillAt Tryz.prog Pows NB (fillF 13) 13 (kdTextList NB) hs:=fun hc _ hH hL hb hv hnb hP => fillTextList_q hc hH hL hb hv hP hNN hnb
theorem growAtTextList {hs:List Hd} (hNN:∀ (i:Nat) (h:Hd),hs[i]?=some h→0≤h.n∧h.n≤1000000000):GrowAt Tryz.prog Pows NB (growF 13) 13 (kdTextList NB) hs:=fun hc _ hH hL hb hvb hv hB hns hnb hP => growTextList_q hc hH hL hb hvb hv hB hns hP hNN hnb
theorem keepAtTextList:KeepAt Tryz.prog 65 38 13 (kdTextList NB):=fun hb hn hH hvb hB hl => keepTextList_q hb hn hH hvb hB hl
theorem lookAtTextList {hs:List Hd} (hNN:∀ (i:Nat) (h:Hd),hs[i]?=some h→0≤h.n∧h.n≤1000000000):LookAt Tryz.prog Pows (lookF 13) 13 (kdTextList NB) hs:=fun hc _ hH hL _ hn hns hP => lookTextList_q (NB:=NB) (M:=0) hc hH hL hns hP fun i h hi => by
 obtain ⟨h0,a1,a2⟩:=hn i h hi;rw [← a2];exact hNN i h0 a1
end
def eT:Nat→TypeId
 | 1 => 113
 | 2 => 163
 | 3 => 175
 | 4 => 115
 | 5 => 118
 | 6 => 120
 | 7 => 190
 | 8 => 82
 | 9 => 198
 | 10 => 203
 | 11 => 200
 | 12 => 9
 | 13 => 76
 | 14 => 3
 | 15 => 218
 | 16 => 225
 | 17 => 231
 | 18 => 236
 | 19 => 242
 | 20 => 129
 | 21 => 126
 | 22 => 254
 | 23 => 261
 | 24 => 267
 | 25 => 273
 | 26 => 279
 | 27 => 286
 | 28 => 292
 | 29 => 297
 | 30 => 303
 | 31 => 309
 | n+32 => 0
 | 0 => 0
def hT:Nat→TypeId
 | 1 => 165
 | 2 => 169
 | 3 => 173
 | 4 => 178
 | 5 => 181
 | 6 => 184
 | 7 => 187
 | 8 => 193
 | 9 => 196
 | 10 => 202
 | 11 => 207
 | 12 => 162
 | 13 => 160
 | 14 => 211
 | 15 => 215
 | 16 => 222
 | 17 => 229
 | 18 => 235
 | 19 => 240
 | 20 => 245
 | 21 => 248
 | 22 => 252
 | 23 => 258
 | 24 => 265
 | 25 => 271
 | 26 => 277
 | 27 => 283
 | 28 => 290
 | 29 => 296
 | 30 => 301
 | 31 => 307
 | n+32 => 0
 | 0 => 0
def kdT (NB:Nat):Nat→Kd
 | 12 => kdText NB
 | 13 => kdTextList NB
 | j => ⟨1,eT j,hT j,R0,0⟩
theorem kdT_e (NB j:Nat):(kdT NB j).e=eT j:=by unfold kdT;split <;> rfl
theorem kdT_h (NB j:Nat):(kdT NB j).H=hT j:=by unfold kdT;split <;> rfl
theorem tE_dec:∀ i j:Fin 32,1≤i.val→1≤j.val→i.val≠j.val→eT i.val≠eT j.val:=by decide +kernel
theorem tH_dec:∀ i j:Fin 32,1≤i.val→1≤j.val→i.val≠j.val→hT i.val≠hT j.val:=by decide +kernel
theorem tX_dec:∀ i j:Fin 32,1≤i.val→1≤j.val→eT i.val≠hT j.val:=by decide +kernel
theorem tB_dec:∀ i:Fin 32,1≤i.val→eT i.val≠65∧hT i.val≠65:=by decide +kernel
theorem kdT_apt (NB:Nat):Apt 65 (kdT NB) :=
 ⟨fun i j h1 h2 h3 h4 hij => by rw [kdT_e,kdT_e];exact tE_dec ⟨i,h2⟩ ⟨j,h4⟩ h1 h3 hij,fun i j h1 h2 h3 h4 hij => by rw [kdT_h,kdT_h];exact tH_dec ⟨i,h2⟩ ⟨j,h4⟩ h1 h3 hij,
  fun i j h1 h2 h3 h4 => by rw [kdT_e,kdT_h];exact tX_dec ⟨i,h2⟩ ⟨j,h4⟩ h1 h3,fun i h1 h2 => by rw [kdT_e];exact (tB_dec ⟨i,h2⟩ h1).1,fun i h1 h2 => by rw [kdT_h];exact (tB_dec ⟨i,h2⟩ h1).2⟩
theorem kdT_kinds (NB:Nat):Kinds 65 (kdT NB) NB :=
 ⟨(kdT_apt NB).ee,(kdT_apt NB).hh,(kdT_apt NB).eh,(kdT_apt NB).eb,(kdT_apt NB).hb,fun j S w w' hO hS => by
  unfold kdT
  split
  ·exact fun cs x h => h
  ·exact RQTextList.onlyT hO fun k hk => .inl (hS k hk)
  ·exact fun cs x h => h,fun j => by
  unfold kdT
  split
  ·exact RQText.stays
  ·exact RQTextList.stays
  ·exact fun _ _ _ _ _ h => h⟩
theorem kdT_none (NB j:Nat) (w:World) (cs:List Value) (h:∀ u ∈ cs,u.oneCell'=true):(kdT NB j).R w cs none:=by
 unfold kdT
 split <;> exact h
theorem kdT_same (NB j:Nat):(kdT NB j).sz=(kdT 0 j).sz∧(kdT NB j).e=(kdT 0 j).e∧(kdT NB j).H=(kdT 0 j).H:=⟨by unfold kdT;split <;> rfl,by rw [kdT_e,kdT_e],by rw [kdT_h,kdT_h]⟩
def usedT (j:Nat):Prop:=j=12∨j=13
section
variable {NB:Nat} {hs:List Hd}
theorem fillAtT {j:Nat} (h1:1≤j) (h2:j<32) (hu:usedT j∨hs=[]) (hN:∀ (i:Nat) (h:Hd),hs[i]?=some h→0≤h.n∧h.n≤1000000000):FillAt Tryz.prog Pows NB (fillF j) j (kdT NB j) hs:=by
 rcases hu with hu|rfl
 ·rcases hu with rfl|rfl
  ·exact fillAtText (NB:=NB) hN
  ·exact fillAtTextList (NB:=NB) hN
 ·exact fillAt_nil _ h1 h2
theorem growAtT {j:Nat} (h1:1≤j) (h2:j<32) (hu:usedT j∨hs=[]) (hN:∀ (i:Nat) (h:Hd),hs[i]?=some h→0≤h.n∧h.n≤1000000000):GrowAt Tryz.prog Pows NB (growF j) j (kdT NB j) hs:=by
 rcases hu with hu|rfl
 ·rcases hu with rfl|rfl
  ·exact growAtText (NB:=NB) hN
  ·exact growAtTextList (NB:=NB) hN
 ·exact growAt_nil _ h1 h2
theorem lookAtT {j:Nat} (h1:1≤j) (h2:j<32) (hu:usedT j∨hs=[]) (hN:∀ (i:Nat) (h:Hd),hs[i]?=some h→0≤h.n∧h.n≤1000000000):LookAt Tryz.prog Pows (lookF j) j (kdT NB j) hs:=by
 rcases hu with hu|rfl
 ·rcases hu with rfl|rfl
  ·exact lookAtText (NB:=NB) hN
  ·exact lookAtTextList (NB:=NB) hN
 ·exact lookAt_nil _ h1 h2
end
theorem apartT_any {B:Nat} {w:World} {b:Nat} {n:Int} {vs:Nat→Value} {hs:Nat→List Hd} {len:Nat→Nat→Nat} (h:BkB 65 (kdT 0) B w b n vs hs len) (hn:n≤1000000000) (hu:∀ j,1≤j→j<32→usedT j∨hs j=[]) (hl:∀ j,1≤j→j<32→∀ i,i<(hs j).length→len j i+70≤3000000000000) (hP:∀ W,Only (fun k => B≤k) w W→Pows W) :
    Calls Tryz.prog 15 #[.pointer (some ⟨b,0,none⟩)] w fun e w' => e = .returned (.bool true)∧Only (ownsA vs hs) w w':=by
 have hN:∀ j (i:Nat) (x:Hd),(hs j)[i]?=some x→0≤x.n∧x.n≤1000000000:=fun j i x hx => by have:=h.num j i x hx;omega
 refine apartA_any (T:=kdT w.heap.size) (h.ready (kdT_same w.heap.size) (kdT_none w.heap.size)) (kdT_kinds _) (fun j h1 h2 => fillAtT h1 h2 (hu j h1 h2) (hN j)) (fun j h1 h2 => growAtT h1 h2 (hu j h1 h2) (hN j)) (fun j h1 h2 => lookAtT h1 h2 (hu j h1 h2) (hN j)) (fun j h1 h2 i hi => ?_) hP;have h9:=hl j h1 h2 i hi;rw [List.length_replicate];rcases hu j h1 h2 with hq|hq
 ·rcases hq with rfl|rfl
  ·exact Nat.le_trans h9 (show 3000000000000≤8796093022208 by decide)
  ·exact Nat.le_trans h9 (show 3000000000000≤5864062014805 by decide)
 ·rw [hq] at hi;simp at hi
theorem usedT_or (j:Nat):usedT j∨¬ usedT j:=Classical.em _
theorem BkU.apart {L B:Nat} {w:World} {b:Nat} {n:Int} {S:Nat→Nat→Prop} (h:BkU 65 (kdT 0) usedT L B w b n S) (hn:n≤1000000000) (hL:L+70≤3000000000000) (hP:∀ W,Only (fun k => B≤k) w W→Pows W) :
    Calls Tryz.prog 15 #[.pointer (some ⟨b,0,none⟩)] w fun e w' => e = .returned (.bool true)∧Only (fun k => (∃ j,S j k)∨b≤k) w w':=by
 obtain ⟨vs,hs,len,q1,q2,q3,q4,q5⟩:=h;refine (apartT_any q1 hn (fun j _ _ => (usedT_or j).imp id (q4 j)) (fun j _ _ i hi => by have:=q3 j i hi;omega) hP).mono ?_;rintro e w' ⟨he,hO⟩;refine ⟨he,hO.mono fun k _ hk => ?_⟩;obtain ⟨j,_,_,hk⟩:=hk;exact hk.elim (fun h9 => .inl ⟨j,q2 j k h9⟩) fun h9 => .inr (q5 j k h9)
def InnerOk (j B b L:Nat) (S:Nat→Nat→Prop) (w:World) (v:Value):Prop :=
 ∃ A m c,v = .slice A m c∧m≤L∧OwnL (kdT 0 j).sz B (kdT 0 j).e R0 w v (List.replicate m none)∧(∀ k,v.ownBlock=some k→k<b)∧∀ k,v.ownBlock=some k→¬ S j k
theorem InnerOk.only {j B b L:Nat} {S:Nat→Nat→Prop} {w w':World} {v:Value} (h:InnerOk j B b L S w v) (hO:Only (fun k => b≤k) w w'):InnerOk j B b L S w' v:=by
 obtain ⟨A,m,c,e,h1,h2,h3,h4⟩:=h;exact ⟨A,m,c,e,h1,h2.only (fun _ _ h => h) hO (fun k hk hb => by have:=h3 k hk;omega),h3,h4⟩
def heldS (S:Nat→Nat→Prop) (jo ji:Nat) (ov:Value) (sv:Nat→Value) (k:Nat) (j x:Nat):Prop:=S j x∨(j=jo∧ov.ownBlock=some x)∨(j=ji∧∃ i,i<k∧(sv i).ownBlock=some x)
set_option maxHeartbeats 1600000 in
set_option maxRecDepth 100000 in
theorem putTextLists_any {L B:Nat} {w:World} {b:Nat} {n:Int} {S:Nat→Nat→Prop} {A:Option Addr} {nl cl:Nat} {sv:Nat→Value} (h:BkU 65 (kdT 0) usedT L B w b n S) (hn:0≤n∧n+nl+1<1000000000) (hnl:nl≤L)
    (hv:OwnL (kdT 0 13).sz B (kdT 0 13).e R0 w (.slice A nl cl) (List.replicate nl none)) (hos:∀ k,(Value.slice A nl cl).ownBlock=some k→¬ S 13 k)
    (hc:∀ i,i<nl→∃ ob oo,A=some ⟨ob,oo,none⟩∧ob<b∧w.cell? ⟨ob,oo+i,none⟩=some (sv i)) (hin:∀ i,i<nl→InnerOk 12 B b L S w (sv i)) (hd:∀ i i' k,i<i'→i'<nl→(sv i).ownBlock=some k→(sv i').ownBlock≠some k) :
    Calls Tryz.prog 14 #[.pointer (some ⟨b,0,none⟩),.slice A nl cl] w fun e w' => (∃ u,e = .returned u)∧BkU 65 (kdT 0) usedT L B w' b (n+1+nl) (heldS S 13 12 (.slice A nl cl) sv nl)∧Only (fun k => b≤k) w w':=by
 have HK:=Hh (h.put (kdT_apt 0) (j:=13) (by omega) (by decide) (by decide) (by unfold usedT;decide) (keepAtTextList (NB:=0)) hv hnl hos);have HIn:=Hh hin;have HC:=Hh hc;have HD:=Hh hd;have hnl9:nl≤9223372036854775807:=by omega
 clear h hv hos hin hc hd;go_enter Tryz.func14,Tryz.ntmps14;go_wp2_with fail;refine HK.out.mono ?_;rintro e w1 ⟨⟨u,rfl⟩,hq,hO⟩;have HQ:=Hh (hq.more (S':=heldS S 13 12 (.slice A nl cl) sv 0) fun j k hk => hk.imp id .inl);have HO:=Hh hO;clear hq hO HK;go_wp2_with fail;go_loopw [4] (fun i W => ∃ k:Nat,k≤nl∧i = .int .i64 k∧Hid (BkU 65 (kdT 0) usedT L B W b (n+1+k) (heldS S 13 12 (.slice A nl cl) sv k))∧Hid (Only (fun k => b≤k) w W)) (fun i _ => nl - (intOf i).toNat)
 case atStart => exact ⟨0,Nat.zero_le _,rfl,Hh (by have h9:=HQ.out;simpa using h9),HO⟩
 case round =>
  obtain ⟨k,hk,rfl,hQ,hO⟩:=hrel;obtain ⟨wq,hwq⟩:∃ x,x=wr:=⟨_,rfl⟩
  subst hwq
  by_cases hlt:k<nl
  ·have hltI:(k:Int)<nl:=by omega
   have e0:(0:Int)≤k∧(k:Int)<nl:=by omega
   obtain ⟨ob,oo,rfl,hob,hcc⟩:=HC.out k hlt;have u0:=hO.out.cell hcc (by show ¬ b≤ob;omega);obtain ⟨A1,m,c,hsv,h1,h2,h3,h4⟩:=(HIn.out k hlt).only hO.out;have hdk:=fun i k' (hi:i<k) => HD.out i k k' hi hlt;rw [hsv] at u0 h2 h4
   have HP:=Hh (fun W (hW:Fut wq W) => (hQ.out.fut hW).put (kdT_apt 0) (j:=12) (by omega) (by decide) (by decide) (by unfold usedT;decide) (keepAtText (NB:=0)) (h2.only (fun _ _ h => h) (Only.fut (S:=fun _ => False) hW) (fun _ _ h => h)) h1 (fun x hx hS => by
    rcases hS with hS|⟨hj,_⟩|⟨_,i,hi,hx'⟩
    ·exact h4 x hx hS
    ·exact absurd hj (by decide)
    ·exact hdk i x hi hx' (by rw [hsv];exact hx)))
   go_wp2_with fail;refine (HP.out _ (Fut.refl _)).mono ?_;rintro e w3 ⟨⟨u,rfl⟩,hq,ho⟩
   have HQ3:=Hh (hq.more (S':=heldS S 13 12 (.slice (some ⟨ob,oo,none⟩) nl cl) sv (k+1)) fun j x hx => by
    rcases hx with (hx|hx|⟨hj,i,hi,hx⟩)|⟨rfl,hx⟩
    ·exact .inl hx
    ·exact .inr (.inl hx)
    ·exact .inr (.inr ⟨hj,i,by omega,hx⟩)
    ·exact .inr (.inr ⟨rfl,k,by omega,by rw [hsv];exact hx⟩))
   have HO3:=Hh (hO.out.trans ho);clear hq ho HP;go_wp2;go_roundw
   case rel => exact ⟨k+1,by omega,by go_num,Hh (by have h9:=HQ3.out;rw [show n+1+((k+1:Nat):Int)=n+1+(k:Int)+1 by omega];exact h9),HO3⟩
   case measure => simp [intOf] <;> omega
  ·obtain rfl:k=nl:=by omega
   go_wp2;go_end0;exact ⟨⟨_,rfl⟩,hQ.out,hO.out⟩
def RLz (B E:Nat) (w:World) (cs:List Value) (L:List ByteArray):Prop:=∃ v,cs=[v]∧Nms B w v L∧∀ k,v.ownBlock=some k→k<E
structure TLs (B E:Nat) (w:World) (v:Value) (xs:List (List ByteArray)):Prop where
 out:OwnL 1 B 76 (RLz B E) w v xs
 lt:∀ k,v.ownBlock=some k→k<E
section
variable {B E:Nat} {w w':World} {v:Value} {xs:List (List ByteArray)}
theorem TLs.new (h:OwnL 1 B 76 (RLs B (.slice none 0 0)) w v xs):TLs B w.heap.size w v xs :=
 ⟨h.imp fun cs x hx => by
  obtain ⟨u,g1,g2,_⟩:=hx;exact ⟨u,g1,g2,fun k hk => (g2.block k hk).2⟩,fun k hk => (h.block k hk).2⟩
theorem TLs.only {S:Nat→Prop} (h:TLs B E w v xs) (hO:Only S w w') (hS:∀ k,B≤k→k<E→¬ S k):TLs B E w' v xs :=
 ⟨h.out.only (fun cs x ⟨u,g1,g2,g3⟩ => ⟨u,g1,g2.only (fun _ _ h => h) hO fun k hk => hS k (g2.block k hk).1 (g3 k hk),g3⟩) hO fun k hk => hS k (h.out.block k hk).1 (h.lt k hk),h.lt⟩
theorem TLs.fut (h:TLs B E w v xs) (hf:Fut w w'):TLs B E w' v xs:=h.only (S:=fun _ => False) (Only.fut hf) fun _ _ _ h => h
theorem TLs.rep (h:TLs B E w v xs):SlRep 1 maxLen (RLs B (.slice none 0 0)) w v xs:=(h.out.imp fun cs x ⟨u,g1,g2,_⟩ => ⟨u,g1,g2,fun k _ e => by cases e⟩).rep
theorem TLs.in_ {A:Option Addr} {n c:Nat} (h:TLs B E w (.slice A n c) xs):∃ sv:Nat→Value,∀ i p,xs[i]?=some p→(∃ ob oo,A=some ⟨ob,oo,none⟩∧w.cell? ⟨ob,oo+i,none⟩=some (sv i))∧Nms B w (sv i) p∧∀ k,(sv i).ownBlock=some k→k<E:=by
 obtain ⟨A1,cap1,hv,_,_,h3⟩:=h.out.rep;injection hv with hv _ _
 have hx:∀ i,∃ u:Value,∀ p,xs[i]?=some p→(∃ ob oo,A=some ⟨ob,oo,none⟩∧w.cell? ⟨ob,oo+i,none⟩=some u)∧Nms B w u p∧∀ k,u.ownBlock=some k→k<E:=fun i => by
  cases hp:xs[i]? with
  | none => exact ⟨.slice none 0 0,fun p h => by cases h⟩
  | some p =>
   obtain ⟨b,off,cs,hA,hl,hc,u,hr,hN,hz⟩:=h3 i p hp;subst hr;have h9:=hc 0 _ rfl;rw [Nat.mul_one,Nat.add_zero] at h9;refine ⟨u,fun q hq => ?_⟩;obtain rfl:=Option.some.inj hq;exact ⟨⟨b,off,hv.trans hA,h9⟩,hN,hz⟩
 exact ⟨fun i => Classical.choose (hx i),fun i => Classical.choose_spec (hx i)⟩
theorem nms_head {u:Value} {p:List ByteArray} {k:Nat} (h:Nms B w u p) (hp:p≠[]) (hk:u.ownBlock=some k):w.cell? ⟨k,0,none⟩=some (.string (hdP p)):=by
 obtain ⟨A,c,rfl,_,_⟩:=h.rep.form;have hl:0<p.length:=List.length_pos_iff.2 hp;obtain ⟨g,arr,rfl,_,hg,_⟩:=h.arr hl;obtain rfl:g=k:=Option.some.inj hk;obtain ⟨b,off,e,h0⟩:=nm_at h.rep hl;injection e with e
 injection e with e1 e2 _
 subst e1;subst e2;rw [Nat.add_zero] at h0;rw [h0];cases p with
 | nil => exact absurd rfl hp
 | cons a l => rfl
end
theorem putTL_any {L B0 B E B9:Nat} {w:World} {b:Nat} {n:Int} {A:Option Addr} {nl cl:Nat} {xs:List (List ByteArray)} (h:BkU 65 (kdT 0) usedT L B9 w b n (fun _ k => B0≤k∧k<B)) (hn:0≤n∧n+nl+1<1000000000) (hnl:xs.length≤L) (hv:TLs B E w (.slice A nl cl) xs) (hB9:B9≤B) (hE:E≤b) (hBE:B≤E) (hB0:B0≤B)
    (hL:∀ p ∈ xs,p≠[]∧p.length≤L) (hd:∀ (i j:Nat) (p q:List ByteArray),xs[i]?=some p→xs[j]?=some q→i<j→hdP p≠hdP q) :
    Calls Tryz.prog 14 #[.pointer (some ⟨b,0,none⟩),.slice A nl cl] w fun e w' => (∃ u,e = .returned u)∧BkU 65 (kdT 0) usedT L B9 w' b (n+1+nl) (fun _ k => B0≤k∧k<E)∧Only (fun k => b≤k) w w':=by
 obtain ⟨sv,hs⟩:=hv.in_
 have hnx:nl=xs.length:=by
  obtain ⟨A1,c1,e,_⟩:=hv.out.rep.form;injection e
 have hat:∀ i,i<nl→∃ p,xs[i]?=some p:=fun i hi => ⟨_,List.getElem?_eq_getElem (by omega)⟩
 refine (putTextLists_any (sv:=sv) h hn (by omega) ?_ (fun k hk hS => ?_) (fun i hi => ?_) (fun i hi => ?_) (fun i i' k hi hi' h1 h2 => ?_)).mono ?_
 ·have h9:=(hv.out.base hB9).none (fun cs x ⟨u,g1,g2,_⟩ => by
    obtain ⟨_,_,rfl,_⟩:=g2.rep.form;subst g1;intro y hy;rw [List.mem_singleton] at hy;subst hy;rfl)
  rw [← hnx] at h9;exact h9
 ·have:=(hv.out.block k hk).1;omega
 ·obtain ⟨p,hp⟩:=hat i hi;obtain ⟨⟨ob,oo,rfl,hc⟩,_⟩:=hs i p hp;refine ⟨ob,oo,rfl,?_,hc⟩;have h9:=hv.lt ob rfl;omega
 ·obtain ⟨p,hp⟩:=hat i hi;obtain ⟨_,hN,hz⟩:=hs i p hp;obtain ⟨A1,c1,e,_,_⟩:=hN.rep.form;refine ⟨A1,p.length,c1,e,(hL p (List.mem_of_getElem? hp)).2,(hN.base hB9).none (RNm.one _),fun k hk => ?_,fun k hk hS => ?_⟩
  ·have:=hz k hk;omega
  ·have:=(hN.block k hk).1;omega
 ·obtain ⟨p,hp⟩:=hat i (by omega);obtain ⟨q,hq⟩:=hat i' hi';have e1:=nms_head (hs i p hp).2.1 (hL p (List.mem_of_getElem? hp)).1 h1;have e2:=nms_head (hs i' q hq).2.1 (hL q (List.mem_of_getElem? hq)).1 h2;rw [e1] at e2;injection e2 with e2
  injection e2 with e2
  exact hd i i' p q hp hq hi e2
 ·rintro e w' ⟨h1,h2,h3⟩;refine ⟨h1,h2.more fun j k hk => ?_,h3⟩;rcases hk with hk|⟨_,hk⟩|⟨_,i,hi,hk⟩
  ·omega
  ·have:=(hv.out.block k hk).1;have:=hv.lt k hk;omega
  ·obtain ⟨p,hp⟩:=hat i hi;obtain ⟨_,hN,hz⟩:=hs i p hp;have:=(hN.block k hk).1;have:=hz k hk;omega
theorem parts_book {rs:List Ru} (hS:Small rs) {out:List (List ByteArray)} (h:PSpec (· ∈ (drawP rs).names) (Rch (drawP rs)) [] out):out.length≤10000000∧(∀ p ∈ out,p≠[]∧p.length≤10000001)∧∀ (i j:Nat) (p q:List ByteArray),out[i]?=some p→out[j]?=some q→i<j→hdP p≠hdP q:=by
 have hc:∀ i p,out[i]?=some p→p≠[]:=fun i p hp => (h.at_ i p hp).1.1;refine ⟨?_,fun p hp => ?_,fun i j p q hp hq hij e => ?_⟩
 ·have h1:=parts_len hS h out.length;rw [List.take_length] at h1
  have h2:∀ l:List (List ByteArray),(∀ p ∈ l,p≠[])→l.length≤l.flatten.length:=fun l => by
   induction l with
   | nil => simp
   | cons a l ih =>
    intro hl;have h3:=ih fun p hp => hl p (List.mem_cons_of_mem _ hp);have h4:=List.length_pos_iff.2 (hl a List.mem_cons_self);rw [List.flatten_cons,List.length_append,List.length_cons];omega
  have h3:=h2 out fun p hp => by
   obtain ⟨i,hi⟩:=List.getElem?_of_mem hp;exact hc i p hi
  omega
 ·obtain ⟨i,hi⟩:=List.getElem?_of_mem hp;have:=part_len hS h hi;exact ⟨hc i p hi,by omega⟩
 ·obtain ⟨cq,aq,_⟩:=h.at_ j q hq;rw [List.nil_append] at aq
  have hm:hdP q ∈ q:=by
   cases q with
   | nil => exact absurd rfl cq.1
   | cons a l => exact List.mem_cons_self
  have hm2:hdP p ∈ p:=by
   have hp0:=hc i p hp;cases p with
   | nil => exact absurd rfl hp0
   | cons a l => exact List.mem_cons_self
  refine aq _ hm (List.mem_flatten.2 ⟨p,?_,e ▸ hm2⟩);exact List.mem_of_getElem? (i:=i) (by rw [List.getElem?_take,if_pos hij];exact hp)
theorem book_new {w:World} {b:Nat} {arr:Array Value} (h:w.heap[b]?=some (.cells arr 65 (0,0))) (ha:arr.toList = .int .i64 0 :: List.replicate 31 (.slice none 0 0)):BookAt 65 w b 0 (fun _ => .slice none 0 0):=by
 refine ⟨arr,h,?_,?_,fun j h1 h2 => ?_⟩
 ·have:=congrArg List.length ha;simpa using this
 ·rw [← Array.getElem?_toList,ha];rfl
 ·obtain ⟨i,rfl⟩:∃ i,j=i+1:=⟨j - 1,by omega⟩
  rw [← Array.getElem?_toList,ha,List.getElem?_cons_succ,List.getElem?_replicate,if_pos (by omega)]
end Go.Proofs.YtobabnpllokkaaaGreatDoor
