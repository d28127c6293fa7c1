/- Parts. -/
import Derived.Test.YtobabnpllokkaaaGreatDoorM24
import Derived.Test.YtobabnpllokkaaaGreatDoorM06
import Derived.Test.YtobabnpllokkaaaGreatDoorM18
import Derived.Test.YtobabnpllokkaaaGreatDoorM25
import Derived.Test.YtobabnpllokkaaaGreatDoorM00
set_option linter.unusedSimpArgs false
set_option linter.unusedVariables false
namespace Go.Proofs.YtobabnpllokkaaaGreatDoor
open Go.RowKit Go.WideMaps
def markLevelP (m:Int):(ByteArray × Nat):=(wordN m,0)
theorem RLv.same:∀ (w w':World) cs (x:(ByteArray × Nat)),RLv w cs x→RLv w' cs x:=fun _ _ _ _ h => h
theorem oneLevel (w:World) (m:Int):∀ v ∈ (#[.string (wordN m),.int .i32 0]:Array Value).toList,v.oneCell' = true:=fun v hv => RLv.one w _ (markLevelP m) rfl v hv
theorem sizeLevel (m:Int):(Tryz.prog.info? 126).map (·.size) = some (#[.string (wordN m),.int .i32 0]:Array Value).toList.length:=by kernel_rfl
theorem atLevel_mark {w:World} {A:Option Addr} {n cap M N:Nat} {m:Int} (h:SlRep 2 M RLv w (.slice A n cap) (List.replicate N (markLevelP m))) {k:Nat} (hk:k < N):∃ b off,A = some ⟨b,off,none⟩∧w.rangeAt b (off + k * 2) (#[.string (wordN m),.int .i32 0]:Array Value).toList:=by
 obtain ⟨A1,cap1,hv,_,_,h3⟩:=h
 obtain ⟨b,off,cs,hA,hl,hc,hr⟩:=h3 k (markLevelP m) (by rw [List.getElem?_replicate,if_pos hk])
 injection hv with hv _ _
 refine ⟨b,off,hv.trans hA,fun j c hj => ?_⟩
 obtain rfl:cs = _:=hr
 rw [Nat.add_assoc]
 exact hc j c hj
theorem markLevel_any (n:Int) (h0:0 ≤ n) (h1:n ≤ 1000000) (w:World) (hP:Pows w):Calls Tryz.prog 122 #[.int .i64 n] w fun e w' => e = .returned (.agg #[.string (wordN n),.int .i32 0])∧Fut w w':=by
 have HW:=Lib.hid (fun W (hW:Fut w W) => wordN_any n h0 (by omega) W (hP.fut hW))
 have F1:=Fut.alloc w (.cells #[.string ⟨#[]⟩,.int .i32 0] 126)
 have hb:=heap_alloc_new w (.cells #[.string ⟨#[]⟩,.int .i32 0] 126)
 generalize wordN n = y at HW
 go_enter Tryz.func122,Tryz.ntmps122
 go_wp2_with fail
 refine (HW.out _ F1).mono ?_
 rintro e w1 ⟨rfl,f1⟩
 have hb1:=f1.block hb
 have c0:=cell_at hb1 0 _ rfl
 have c1:=cell_at hb1 1 _ rfl
 have z0:=free_at hb1 0
 have z1:=free_at hb1 1
 have hi2:(Tryz.prog.info? 126).map (·.size) = some 2:=by kernel_rfl
 have hone:=all_oneCell_toArray (RLv.one w [.string y,.int .i32 0] (y,0) rfl)
 have hth:w1.there w.heap.size 0 2:=fun j hj => by
  match j,hj with
  | 0,_ => exact ⟨by have:=c0;simp [this],z0⟩
  | 1,_ => exact ⟨by have:=c1;simp [this],z1⟩
  | n + 2,h => omega
 obtain ⟨w2,hw2⟩:∃ W,w1.setCells w.heap.size 0 [.string y,.int .i32 0] = W:=⟨_,rfl⟩
 have hO2:Only (fun k => k = w.heap.size) w1 w2:=by
  obtain ⟨arr',e1,_,_⟩:=setCells_put [.string y,.int .i32 0] 0 w1 _ hb1
  rw [← hw2,e1];exact Only.put _ _ rfl
 have hc2:∀ j v,[Value.string y,Value.int .i32 0][j]? = some v→w2.cell? ⟨w.heap.size,0 + j,none⟩ = some v:=fun j v hj => by
  obtain ⟨arr',e1,e2,e3⟩:=setCells_put [.string y,.int .i32 0] 0 w1 _ hb1
  have hl:=(Array.getElem?_eq_some_iff.1 hb1).1
  have hjl:j < 2:=(List.getElem?_eq_some_iff.1 hj).1
  have h9:=e3 (0 + j)
  rw [if_pos ⟨by omega,by simp;omega,by simp;omega⟩] at h9
  rw [← hw2,e1]
  refine cell_at (World.putObj_heap_same hl) _ v ?_
  rw [h9,Nat.zero_add,Nat.sub_zero];exact hj
 go_wp2_with (show wpList _ _ _ (Oper.mk _ (Op.store _ _ _) _ _ _ _ :: _) _ _;refine wpList_store_mid rfl 126 _ _ rfl w.heap.size 0 #[.string y,.int .i32 0] rfl rfl hth hi2 hone ?_)
 have d0:=hc2 0 _ rfl
 have d1:=hc2 1 _ rfl
 have hw3:w1.setCells w.heap.size 0 #[Value.string y,Value.int .i32 0].toList = w2:=hw2
 try rw [hw3]
 exact bodyPost_ret (v:=.agg #[.string y,.int .i32 0]) (by simp [results,Tryz.results122,go_sem,d0,d1]) rfl ⟨rfl,((Only.fut (F1.trans f1)).trans hO2).toFut fun k hk => by omega⟩
theorem isLevel_any (n:Int) (h0:0 ≤ n) (h1:n ≤ 1000000) (w:World) (hP:Pows w):Calls Tryz.prog 234 #[.agg #[.string (wordN n),.int .i32 0],.int .i64 n] w fun e w' => e = .returned (.bool true)∧Fut w w':=by
 have HW:=Lib.hid (fun W (hW:Fut w W) => wordN_any n h0 (by omega) W (hP.fut hW))
 generalize wordN n = y at HW
 have F1:=Fut.alloc w (.cells #[.string y,.int .i32 0] 126)
 have hb:=heap_alloc_new w (.cells #[.string y,.int .i32 0] 126)
 have c0:=cell_at hb 0 _ rfl
 have c1:=cell_at hb 1 _ rfl
 go_enter Tryz.func234,Tryz.ntmps234
 go_wp2_with fail
 refine wp_graph 6 [.d,.d,.d,.d,.d,.d] (by kernel_rfl) (by kernel_rfl) (by kernel_rfl) ?_
 simp only [takS,Exs]
 iterate 6 apply Exists.intro
 apply Run.valG (wanted_none rfl _)
 ·intro w1 h1 hk
  have hg:=(Fut.drew _).trans h1;have q0:=hg.cell c0;have q1:=hg.cell c1
  have hcw:=fun b o => Below.cell (p:=⟨b,o,none⟩) h1
  go_simp;rfl
 simp only [actS]
 apply Run.valG (wanted_none rfl _)
 ·intro w1 h1 hk
  go_simp;rfl
 simp only [actS]
 apply Run.call (wanted_none rfl _) (fun _ _ => by go_simp;exact ⟨rfl,rfl⟩)
 ·intro w1 h1 hk
  have hg:=(Fut.drew _).trans h1;have q0:=hg.cell c0;have q1:=hg.cell c1
  refine (HW.out _ (F1.trans hg)).mono ?_;rintro e w' ⟨rfl,hf⟩;exact ⟨rfl,hf⟩
 simp only [actS]
 iterate 2
  apply Run.valG (wanted_none rfl _)
  ·intro w1 h1 hk
   have hg:=(Fut.drew _).trans h1;have q0:=hg.cell c0;have q1:=hg.cell c1
   have hcw:=fun b o => Below.cell (p:=⟨b,o,none⟩) h1
   go_simp;rfl
  simp only [actS]
 apply Run.valG (wanted_none rfl _)
 ·intro w1 h1 hk
  go_simp;rfl
 simp only [actS]
 apply Run.done
 intro w2 h2 hk
 clear hk
 go_wp2
 go_ret
 exact ⟨by simp,F1.trans ((Fut.drew _).trans h2)⟩
set_option maxHeartbeats 1600000 in
set_option maxRecDepth 100000 in
theorem fillLevel_any {B:Nat} {w:World} {b:Nat} {v:Value} {hs:List Hd} {f:Nat→List (ByteArray × Nat)} (hc:w.cell? ⟨b,21,none⟩ = some v) (hH:OwnL 3 B 248 RH w v hs) (hL:Lists 2 B 126 RLv w hs f)
    (hb:¬ ownsL hs b) (hv:∀ k,v.ownBlock = some k→¬ ownsL hs k) (hPW:∀ W,Only (fun k => B ≤ k) w W→Pows W) (hNN:∀ (i:Nat) (h:Hd),hs[i]? = some h→0 ≤ h.n∧h.n ≤ 1000000) :
    Calls Tryz.prog 60 #[.pointer (some ⟨b,0,none⟩)] w fun e w' => (∃ u,e = .returned u)∧Lists 2 B 126 RLv w' hs (markF markLevelP hs f)∧Only (ownsL hs) w w':=by
 have HPW:=Lib.hid hPW
 have HNN:=Lib.hid hNN
 clear hPW hNN
 have HH:=Lib.hid hH
 have HL:=Lib.hid hL
 have HV:=Lib.hid hv
 have hB0:b < w.heap.size:=lt_of_cell hc
 obtain ⟨A,cap,rfl,hcl,hcm⟩:=hH.rep.form
 have hml:hs.length ≤ 9223372036854775807:=Nat.le_trans hcl hcm
 have HLt:=Lib.hid HL.out.lt
 clear hH hL hv
 go_enter Tryz.func60,Tryz.ntmps60
 go_wp2_with fail
 go_loopw [2] (fun i wr => ∃ k:Nat,k ≤ hs.length∧i = .int .i64 k∧Hid (Lists 2 B 126 RLv wr hs (upTo k (markF markLevelP hs f) f))∧Hid (Only (ownsL hs) w wr)) (fun i _ => hs.length - (intOf i).toNat)
 case atStart => exact ⟨0,Nat.zero_le _,rfl,Lib.hid (HL.out.cong fun i _ => (by unfold upTo;rw [if_neg (by omega)])),Lib.hid (Only.refl _)⟩
 case round =>
  obtain ⟨k,hk,rfl,hL,hO⟩:=hrel
  have cw:=hO.out.cell hc hb
  by_cases hlt:k < hs.length
  ·have hltI:(k:Int) < hs.length:=by omega
   have e1:(0:Int) ≤ k∧(k:Int) < hs.length:=by omega
   have e3:IntKind.i64.wrap ((k:Int) + 1) = ((k + 1:Nat):Int):=by rw [IntKind.wrap_i64];omega
   obtain ⟨gv,ov,l,long,m,rfl,hkk,d0,d1,d2,⟨A1,n1,c1,rfl⟩,A2,n2,c2,rfl⟩:=held_at ((HH.out.only (RH.same w wr) hO.out HV.out).rep) hlt
   have hmn:0 ≤ m∧m ≤ 1000000:=HNN.out k _ hkk
   have hE:=hL.out.each k _ hkk
   have hfk:upTo k (markF markLevelP hs f) f k = f k:=by unfold upTo;rw [if_neg (by omega)]
   rw [hfk] at hE
   obtain ⟨_,_,hn1,hn1c,hn1m⟩:=hE.rep.form
   obtain rfl:n1 = (f k).length:=by injection hn1
   have hml1:(f k).length ≤ 9223372036854775807:=Nat.le_trans hn1c hn1m
   clear hn1
   have HE:=Lib.hid hE
   clear hE
   go_wp2_with fail
   have h3:=heap_alloc_new wr (.cells #[.slice A1 (f k).length c1,.slice A2 n2 c2,.int .i64 m] 248)
   have F1:=Fut.alloc wr (.cells #[.slice A1 (f k).length c1,.slice A2 n2 c2,.int .i64 m] 248)
   obtain ⟨w1,hw1⟩:∃ W,wr.alloc (.cells #[.slice A1 (f k).length c1,.slice A2 n2 c2,.int .i64 m] 248) = W:=⟨_,rfl⟩
   rw [hw1] at h3 F1 ⊢
   clear hw1
   have HE1:=Lib.hid (HE.out.fut (fun _ _ _ _ _ h => h) F1)
   have hbl:=HE.out.block
   have F1':=Lib.hid F1
   clear F1
   go_loopw [4] (fun i wq => ∃ q:Nat,q ≤ (f k).length∧i = .int .i64 q∧Hid (OwnL 2 B 126 RLv wq (.slice A1 (f k).length c1) (List.replicate q (markLevelP m) ++ (f k).drop q))∧Hid (Only (fun j => (Value.slice A1 (f k).length c1).ownBlock = some j) w1 wq)) (fun i _ => (f k).length - (intOf i).toNat)
   case atStart => exact ⟨0,Nat.zero_le _,rfl,HE1,Lib.hid (Only.refl _)⟩
   case round =>
    obtain ⟨q,hq,rfl,hE2,hO2⟩:=hrel
    have b3:=hO2.out.keeps h3 (fun h => by have:=(hbl _ h).2;omega)
    have t0:=cell_at b3 0 (.slice A1 (f k).length c1) rfl
    have t2:=cell_at b3 2 (.int .i64 m) rfl
    by_cases hql:q < (f k).length
    ·have hqI:(q:Int) < (f k).length:=by omega
     have e2:(0:Int) ≤ q∧(q:Int) < (f k).length:=by omega
     have e4:IntKind.i64.wrap ((q:Int) + 1) = ((q + 1:Nat):Int):=by rw [IntKind.wrap_i64];omega
     have hll:(List.replicate q (markLevelP m) ++ (f k).drop q).length = (f k).length:=by rw [List.length_append,List.length_replicate,List.length_drop];omega
     obtain ⟨g,arr,rfl,hlx,hg,hsz⟩:=hE2.out.arr (q:=q) (by rw [hll];exact hql)
     clear hlx hll
     have HPq:=Lib.hid (fun W (hW:Fut wr W) => HPW.out W (((hO.out.mono fun j _ hs' => (HLt.out j hs').1).trans (Only.fut F1'.out)).trans ((hO2.out.mono fun j _ hj => (hbl j hj).1).trans (Only.fut hW))))
     go_wp2_with fail
     refine wp_graph 6 [.d,.d,.d,.d,.d,.d] (by kernel_rfl) (by kernel_rfl) (by kernel_rfl) ?_
     simp only [takS,Exs]
     iterate 6 apply Exists.intro
     apply Run.valG (wanted_none rfl _)
     ·intro w1 h1 hk
      go_simp;rfl
     simp only [actS]
     apply Run.valG (wanted_none rfl _)
     ·intro w1 h1 hk
      have q0:=h1.cell t0;have q2:=h1.cell t2
      have hcw:=fun b o => Below.cell (p:=⟨b,o,none⟩) h1
      go_simp;rfl
     simp only [actS]
     iterate 2
      apply Run.valG (wanted_none rfl _)
      ·intro w1 h1 hk
       go_simp;rfl
      simp only [actS]
     apply Run.valG (wanted_none rfl _)
     ·intro w1 h1 hk
      have q0:=h1.cell t0;have q2:=h1.cell t2
      have hcw:=fun b o => Below.cell (p:=⟨b,o,none⟩) h1
      go_simp;rfl
     simp only [actS]
     apply Run.call (wanted_none rfl _) (fun _ _ => by go_simp;exact ⟨rfl,rfl⟩)
     ·intro w1 h1 hk
      have q0:=h1.cell t0;have q2:=h1.cell t2
      refine (markLevel_any m hmn.1 hmn.2 _ (HPq.out _ ((Fut.drew _).trans h1))).mono ?_;rintro e w' ⟨rfl,hf⟩;exact ⟨rfl,hf⟩
     simp only [actS]
     apply Run.done
     intro w2 h2 hk
     clear hk
     have F2:=(Fut.drew _).trans h2
     have hg2:=F2.block hg
     have hsz':q * 2 + (#[.string (wordN m),.int .i32 0]:Array Value).toList.length ≤ arr.size:=hsz
     have hon:=oneLevel w m
     have hi3:=sizeLevel m
     go_wp2_with (first | (refine wpList_storeW (e:=126) (cs:=(#[.string (wordN m),.int .i32 0]:Array Value).toList) (wanted_none rfl _) _ _ rfl rfl rfl hg2 hsz' hi3 hon ?_;intro arr' harr'))
     have OS:Only (fun j => j = g) w2 (w2.putObj g (.cells arr' 126 (0,0))):=Only.put _ _ rfl
     have hgl:=(Array.getElem?_eq_some_iff.1 hg2).1
     have hW:=(hE2.out.fut RLv.stays F2).write hg2 (World.putObj_heap_same hgl) (k:=q) (by rw [List.length_append,List.length_replicate,List.length_drop];omega) (cs:=(#[.string (wordN m),.int .i32 0]:Array Value).toList) (y:=markLevelP m) harr' rfl rfl (fun cs x h => h)
     rw [mark_set hql] at hW
     go_roundw
     case rel => exact ⟨q + 1,by omega,by go_num,Lib.hid hW,Lib.hid (hO2.out.trans ((Only.fut F2).trans (OS.mono fun j _ hj => by have hj':j = g:=hj;rw [hj'];rfl)))⟩
     case measure => simp [intOf] <;> omega
    ·obtain rfl:q = (f k).length:=by omega
     have hE3:=hE2.out
     rw [List.drop_length,List.append_nil] at hE3
     have hf:=(Only.fut F1'.out).trans hO2.out
     have HE3:=Lib.hid hE3
     have HF:=Lib.hid hf
     clear hE3 hf hE2 hO2
     go_wp2
     go_roundw
     case rel => exact ⟨k + 1,by omega,by go_num,Lib.hid (hL.out.step (RLv.same _ _) hkk HF.out HE3.out (markF_at hkk)),Lib.hid (hO.out.trans (HF.out.mono fun j _ hj => ⟨k,_,hkk,hj⟩))⟩
     case measure => simp [intOf] <;> omega
  ·obtain rfl:k = hs.length:=by omega
   go_wp2
   go_end0
   exact ⟨⟨_,rfl⟩,hL.out.cong fun i hi => (by unfold upTo;rw [if_pos hi]),hO.out⟩
set_option maxHeartbeats 1600000 in
set_option maxRecDepth 100000 in
theorem growLevel_any {B:Nat} {w:World} {b:Nat} {v:Value} {hs:List Hd} {ns:Nat→Nat} (hc:w.cell? ⟨b,21,none⟩ = some v) (hH:OwnL 3 B 248 RH w v hs) (hL:Lists 2 B 126 RLv w hs (fun i => List.replicate (ns i) (markLevelP ((hs.getD i ⟨.slice none 0 0,.slice none 0 0,0⟩).n))))
    (hb:¬ ownsL hs b) (hvb:v.ownBlock ≠ some b) (hv:∀ k,v.ownBlock = some k→¬ ownsL hs k) (hB:B ≤ w.heap.size) (hns:∀ i,i < hs.length→ns i + 70 ≤ 5864062014805) (hPW:∀ W,Only (fun k => B ≤ k) w W→Pows W) (hNN:∀ (i:Nat) (h:Hd),hs[i]? = some h→0 ≤ h.n∧h.n ≤ 1000000) :
    Calls Tryz.prog 153 #[.pointer (some ⟨b,0,none⟩)] w fun e w' => (∃ u,e = .returned u)∧∃ hs',Grow 2 B 126 248 RLv markLevelP w v hs ns hs.length w' hs':=by
 have HPW:=Lib.hid hPW
 have HNN:=Lib.hid hNN
 clear hPW hNN
 have hlow:∀ x,ownsL hs x→x < w.heap.size:=fun x hx => (hL.lt x hx).2
 have hvw:∀ x,v.ownBlock = some x→x < w.heap.size∧¬ ownsL hs x:=fun x hx => ⟨(hH.block x hx).2,hv x hx⟩
 have G0:Grow 2 B 126 248 RLv markLevelP w v hs ns 0 w hs:=⟨hH,rfl,fun _ _ => rfl,fun i h hi => absurd hi (by omega),fun i h _ hi => (by
  have h1:=hL.each i h hi
  have h2:hs.getD i ⟨.slice none 0 0,.slice none 0 0,0⟩ = h:=by rw [List.getD_eq_getElem?_getD,hi];rfl
  simp only [h2] at h1
  exact h1),Only.refl _⟩
 have HLt:=Lib.hid hL.lt
 have HVt:=Lib.hid hH.block
 have HG0:=Lib.hid G0
 have HA:=Lib.hid hL.apart
 have HLO:=Lib.hid hlow
 have HV:=Lib.hid hvw
 have HNS:=Lib.hid hns
 have hB0:b < w.heap.size:=lt_of_cell hc
 have hcb:¬ (ownsL hs b∨v.ownBlock = some b):=fun h => h.elim hb hvb
 obtain ⟨A,cap,rfl,hcl,hcm⟩:=hH.rep.form
 have hml:hs.length ≤ 9223372036854775807:=Nat.le_trans hcl hcm
 clear hH hL hv hlow hvw G0 hns
 go_enter Tryz.func153,Tryz.ntmps153
 go_wp2_with fail
 go_loopw [2] (fun i wr => ∃ k:Nat,k ≤ hs.length∧i = .int .i64 k∧Hid (∃ hs',Grow 2 B 126 248 RLv markLevelP w (.slice A hs.length cap) hs ns k wr hs')) (fun i _ => hs.length - (intOf i).toNat)
 case atStart => exact ⟨0,Nat.zero_le _,rfl,Lib.hid ⟨_,HG0.out⟩⟩
 case round =>
  obtain ⟨k,hk,rfl,hG⟩:=hrel
  obtain ⟨hs',hG⟩:=hG.out
  have cw:=hG.only.cell hc hcb
  have hws:=hG.only.size
  by_cases hlt:k < hs.length
  ·have hltI:(k:Int) < hs.length:=by omega
   have e1:(0:Int) ≤ k∧(k:Int) < hs.length:=by omega
   have e3:IntKind.i64.wrap ((k:Int) + 1) = ((k + 1:Nat):Int):=by rw [IntKind.wrap_i64];omega
   obtain ⟨gv,ov,l,long,m,rfl,hkk,d0,d1,d2,⟨A1,n1,c1,rfl⟩,A2,n2,c2,rfl⟩:=held_at hG.held.rep (k:=k) (by rw [hG.len];exact hlt)
   have hkk':=hkk
   rw [hG.rest k (Nat.le_refl _)] at hkk
   have hmn:0 ≤ m∧m ≤ 1000000:=HNN.out k _ hkk
   have hE:=hG.todo k _ (Nat.le_refl _) hkk
   obtain ⟨Aq,cq,hn1,hn1c,hn1m⟩:=hE.rep.form
   rw [List.length_replicate] at hn1 hn1c
   obtain rfl:n1 = ns k:=by injection hn1
   clear hn1
   have hnk:=HNS.out k hlt
   have hat0:=hE.at0
   obtain ⟨gv',arrv,hgv',hlx,hgv,hszv⟩:=hG.held.arr (q:=k) (by rw [hG.len];exact hlt)
   injection hgv' with hgv'
   injection hgv' with q1 q2
   subst q1 q2
   rw [Nat.zero_add] at d0 d1 d2
   have HE:=Lib.hid hE
   have HG:=Lib.hid hG
   clear hE hG hlx
   go_wp2_with fail
   have h3:=heap_alloc_new wr (.cells #[.slice A1 (ns k) c1,.slice A2 n2 c2,.int .i64 m] 248)
   have F1:=Fut.alloc wr (.cells #[.slice A1 (ns k) c1,.slice A2 n2 c2,.int .i64 m] 248)
   obtain ⟨w1,hw1⟩:∃ W,wr.alloc (.cells #[.slice A1 (ns k) c1,.slice A2 n2 c2,.int .i64 m] 248) = W:=⟨_,rfl⟩
   rw [hw1] at h3 F1 ⊢
   clear hw1
   have HE1:=Lib.hid (HE.out.fut RLv.stays F1)
   have hbl:=HE.out.block
   have hs1:=F1.size
   have F1':=Lib.hid F1
   have HL1:=Lib.hid (HE1.out.rep)
   clear F1
   go_loopw [4,5] (fun L i wq => ∃ q:Nat,q ≤ 70∧i = .int .i64 q∧Hid (OwnL 2 B 126 RLv wq L (List.replicate (ns k + q) (markLevelP m)))∧Hid (SlRep 2 maxLen RLv wq (.slice A1 (ns k) c1) (List.replicate (ns k) (markLevelP m)))∧Hid (∀ x,L.ownBlock = some x→(Value.slice A1 (ns k) c1).ownBlock = some x∨w1.heap.size ≤ x)∧Hid (Only (fun j => (Value.slice A1 (ns k) c1).ownBlock = some j) w1 wq)) (fun _ i _ => 70 - (intOf i).toNat)
   case atStart => exact ⟨0,Nat.zero_le _,rfl,HE1,HL1,Lib.hid (fun x hx => .inl hx),Lib.hid (Only.refl _)⟩
   case round =>
    obtain ⟨q,hq,rfl,hL2,hS2,hB2,hO2⟩:=hrel
    have b3:=hO2.out.keeps h3 (fun h => by have:=(hbl _ h).2;omega)
    have t2:=cell_at b3 2 (.int .i64 m) rfl
    have hs2:=hO2.out.size
    by_cases hql:q < 70
    ·have hqI:(q:Int) < 70:=by omega
     have e4:IntKind.i64.wrap ((q:Int) + 1) = ((q + 1:Nat):Int):=by rw [IntKind.wrap_i64];omega
     have HPq:=Lib.hid (fun W (hW:Fut wr W) => HPW.out W (((HG.out.only.mono fun j _ hj => hj.elim (fun h => (HLt.out j h).1) (fun h => (HVt.out j h).1)).trans (Only.fut F1'.out)).trans ((hO2.out.mono fun j _ hj => (hbl j hj).1).trans (Only.fut hW))))
     go_wp2_with fail
     refine (markLevel_any m hmn.1 hmn.2 _ (HPq.out _ (Fut.refl _))).mono ?_
     rintro e wm ⟨rfl,hfm⟩
     have hOa:=hL2.out.fut RLv.stays (hfm.trans (Fut.alloc wm (.cells #[.string (wordN m),.int .i32 0] 126)))
     have hba:=heap_alloc_new wm (.cells #[.string (wordN m),.int .i32 0] 126)
     have hza:(wm.alloc (.cells #[.string (wordN m),.int .i32 0] 126)).heap.size = wm.heap.size + 1:=by simp
     have HZa:=Lib.hid hza
     have hsm:=hfm.size
     have hbs:B ≤ (wm.alloc (.cells #[.string (wordN m),.int .i32 0] 126)).heap.size:=by omega
     have FA:=Lib.hid (hfm.trans (Fut.alloc wm (.cells #[.string (wordN m),.int .i32 0] 126)))
     clear hza
     go_wp2_with (first | (refine wpList_append1 (P:=Tryz.prog) (e:=126) (e':=126) (cs:=(#[.string (wordN m),.int .i32 0]:Array Value).toList) (y:=markLevelP m) (wanted_none rfl _) _ _ rfl Tryz.underlying68 infoLv rfl (by omega) RLv.one (fun _ cs x h _ => RLv.same _ _ cs x h) rfl rfl hOa hba rfl rfl (by rw [List.length_replicate];unfold maxLen;omega) (by rw [List.length_replicate];omega) hbs ?_;intro v8 w8 hO8 hG8 hB8))
     have hre:List.replicate (ns k + q) (markLevelP m) ++ [markLevelP m] = List.replicate (ns k + (q + 1)) (markLevelP m):=by rw [show ns k + (q + 1) = (ns k + q) + 1 by omega,List.replicate_succ']
     have hkp:=append_keep (RLv.same _ _) (hS2.out.fut RLv.stays FA.out) hat0 (by rw [List.take_replicate,Nat.min_eq_left (by omega)]) (by rw [List.length_replicate];omega) hG8 hO8 hB8
     rw [hre] at hO8
     have hO9:=(hO2.out.trans (Only.fut FA.out)).then (Only.grown (S:=fun j => u4.ownBlock = some j) hG8 fun j hj => hj) (fun j hj hlt => (hB2.out j hj).elim id fun h => absurd hlt (by omega))
     go_roundw
     case rel => exact ⟨q + 1,by omega,by go_num,Lib.hid hO8,Lib.hid hkp,Lib.hid (fun x hx => by
      rcases hB8 with h8 | ⟨h8,_⟩
      ·exact hB2.out x (h8 ▸ hx)
      ·rw [h8] at hx
       have:=HZa.out
       injection hx with hx
       exact .inr (by omega)),Lib.hid hO9⟩
     case measure => simp [intOf] <;> omega
    ·obtain rfl:q = 70:=by omega
     obtain ⟨A4,c4,hu4,h4c,h4m⟩:=hL2.out.rep.form
     rw [List.length_replicate] at hu4 h4c
     subst hu4
     have hf:=(Only.fut F1'.out).trans hO2.out
     have hgvl:gv < w.heap.size∧¬ ownsL hs gv:=HV.out gv rfl
     have hngv:¬ (Value.slice A1 (ns k) c1).ownBlock = some gv:=fun h => hgvl.2 ⟨k,_,hkk,h⟩
     have bgv:=hf.keeps hgv hngv
     have cwb:=hf.cell cw (fun h => hb ⟨k,_,hkk,h⟩)
     have a0:=arr_of_cell hgv d0
     have a2:=arr_of_cell hgv d2
     have x1:wr.cell? ⟨gv,k * 3 + 1,none⟩ = some (.slice A2 n2 c2):=hf.cell d1 hngv
     have z1:=free_at bgv (k * 3 + 1)
     have hh:=(HG.out.held.only (RH.same _ _) hf fun x hx hx2 => (HV.out x hx).2 ⟨k,_,hkk,hx2⟩).write bgv (set_blk bgv (i:=k * 3 + 1) (v:=.slice A4 (ns k + 70) c4)) (k:=k) (by rw [HG.out.len];exact hlt) (cs:=Hd.cells ⟨.slice A1 (ns k) c1,.slice A4 (ns k + 70) c4,m⟩) (y:=⟨.slice A1 (ns k) c1,.slice A4 (ns k + 70) c4,m⟩) (set_held a0 a2) rfl ⟨rfl,⟨_,_,_,rfl⟩,_,_,_,rfl⟩ (RH.same _ _)
     have OS:Only (fun j => (Value.slice (some ⟨gv,0,none⟩) hs.length cap).ownBlock = some j) wr (wr.setCell ⟨gv,k * 3 + 1,none⟩ (.slice A4 (ns k + 70) c4)):=Only.set _ _ rfl
     have HST:=Lib.hid (HG.out.step (RLv.same _ _) (RLv.same _ _) HA.out HLO.out HV.out hkk hf hS2.out hL2.out.rep (fun x hx => (hB2.out x hx).imp id fun h => Nat.le_trans hs1 h) OS hh)
     clear hh hf
     go_wp2
     go_roundw
     case rel => exact ⟨k + 1,by omega,by go_num,Lib.hid ⟨_,HST.out⟩⟩
     case measure => simp [intOf] <;> omega
  ·obtain rfl:k = hs.length:=by omega
   have HG:=Lib.hid hG
   clear hG
   go_wp2
   go_end0
   exact ⟨⟨_,rfl⟩,_,HG.out⟩
set_option maxHeartbeats 1600000 in
set_option maxRecDepth 100000 in
theorem lookLevel_any {M:Nat} {w:World} {b:Nat} {v:Value} {hs:List Hd} {ns:Nat→Nat} (hc:w.cell? ⟨b,21,none⟩ = some v) (hH:SlRep 3 maxLen RH w v hs)
    (hl:∀ (i:Nat) (h:Hd),hs[i]? = some h→SlRep 2 maxLen RLv w h.l (List.replicate (ns i) (markLevelP h.n))∧SlRep 2 maxLen RLv w h.long (List.replicate (ns i + 70) (markLevelP h.n))) (hns:∀ i,i < hs.length→ns i + 70 ≤ 5864062014805) (hPW:∀ W,Fut w W→Pows W) (hNN:∀ (i:Nat) (h:Hd),hs[i]? = some h→0 ≤ h.n∧h.n ≤ 1000000) :
    Calls Tryz.prog 184 #[.pointer (some ⟨b,0,none⟩)] w fun e w' => e = .returned (.bool true)∧Fut w w':=by
 have HPW:=Lib.hid hPW
 have HNN:=Lib.hid hNN
 clear hPW hNN
 have HH:=Lib.hid hH
 have HL:=Lib.hid hl
 have HNS:=Lib.hid hns
 obtain ⟨A,cap,rfl,hcl,hcm⟩:=hH.form
 have hml:hs.length ≤ 9223372036854775807:=Nat.le_trans hcl hcm
 clear hH hl hns
 go_enter Tryz.func184,Tryz.ntmps184
 go_wp2_with fail
 go_loopw [3] (fun i wr => ∃ k:Nat,k ≤ hs.length∧i = .int .i64 k∧Hid (Fut w wr)) (fun i _ => hs.length - (intOf i).toNat)
 case atStart => exact ⟨0,Nat.zero_le _,rfl,Lib.hid (Fut.refl _)⟩
 case round =>
  obtain ⟨k,hk,rfl,hG⟩:=hrel
  have cw:=hG.out.cell hc
  by_cases hlt:k < hs.length
  ·have hltI:(k:Int) < hs.length:=by omega
   have e1:(0:Int) ≤ k∧(k:Int) < hs.length:=by omega
   have e3:IntKind.i64.wrap ((k:Int) + 1) = ((k + 1:Nat):Int):=by rw [IntKind.wrap_i64];omega
   obtain ⟨gv,ov,l,long,m,rfl,hkk,d0,d1,d2,⟨A1,n1,c1,rfl⟩,A2,n2,c2,rfl⟩:=held_at (HH.out.fut RH.stays hG.out) hlt
   have hmn:0 ≤ m∧m ≤ 1000000:=HNN.out k _ hkk
   obtain ⟨hl1,hl2⟩:=HL.out k _ hkk
   have hnk:=HNS.out k hlt
   obtain ⟨Aq,cq,hn1,_⟩:=hl1.form
   obtain ⟨Ar,cr,hn2,_⟩:=hl2.form
   rw [List.length_replicate] at hn1 hn2
   obtain rfl:n1 = ns k:=by injection hn1
   obtain rfl:n2 = ns k + 70:=by injection hn2
   have e5:IntKind.i64.wrap ((ns k:Int) + 70) = (ns k:Int) + 70:=by rw [IntKind.wrap_i64];omega
   have HL1:=Lib.hid (hl1.fut RLv.stays hG.out)
   have HL2:=Lib.hid (hl2.fut RLv.stays hG.out)
   clear hn1 hn2 hl1 hl2
   go_wp2_with fail
   have h3:=heap_alloc_new wr (.cells #[.slice A1 (ns k) c1,.slice A2 (ns k + 70) c2,.int .i64 m] 248)
   have F1:=Fut.alloc wr (.cells #[.slice A1 (ns k) c1,.slice A2 (ns k + 70) c2,.int .i64 m] 248)
   obtain ⟨w1,hw1⟩:∃ W,wr.alloc (.cells #[.slice A1 (ns k) c1,.slice A2 (ns k + 70) c2,.int .i64 m] 248) = W:=⟨_,rfl⟩
   rw [hw1] at h3 F1 ⊢
   clear hw1
   have F1':=Lib.hid F1
   clear F1
   go_loopw [5] (fun i wq => ∃ q:Nat,q ≤ ns k + 70∧i = .int .i64 q∧Hid (Fut w1 wq)) (fun i _ => ns k + 70 - (intOf i).toNat)
   case atStart => exact ⟨0,Nat.zero_le _,rfl,Lib.hid (Fut.refl _)⟩
   case round =>
    obtain ⟨q,hq,rfl,hG2⟩:=hrel
    have b3:=hG2.out.block h3
    have t0:=cell_at b3 0 (.slice A1 (ns k) c1) rfl
    have t1:=cell_at b3 1 (.slice A2 (ns k + 70) c2) rfl
    have t2:=cell_at b3 2 (.int .i64 m) rfl
    have HPq:=Lib.hid (fun W (hW:Fut wr W) => HPW.out W (hG.out.trans (F1'.out.trans (hG2.out.trans hW))))
    by_cases hql:q < ns k + 70
    ·have hqI:(q:Int) < (ns k:Int) + 70:=by omega
     have e2:(0:Int) ≤ q∧(q:Int) < (ns k:Int) + 70:=by omega
     have e4:IntKind.i64.wrap ((q:Int) + 1) = ((q + 1:Nat):Int):=by rw [IntKind.wrap_i64];omega
     obtain ⟨gl,ol,rfl,rl⟩:=atLevel_mark (HL2.out.fut RLv.stays (F1'.out.trans hG2.out)) (k:=q) hql
     by_cases hqs:q < ns k
     ·have hqsI:(q:Int) < (ns k:Int):=by omega
      have e6:(0:Int) ≤ q∧(q:Int) < (ns k:Int):=by omega
      obtain ⟨gs,os,rfl,rs⟩:=atLevel_mark (HL1.out.fut RLv.stays (F1'.out.trans hG2.out)) (k:=q) hqs
      go_wp2_with fail
      refine wp_graph 27 [.d,.d,.d,.d,.d,.d,.d,.d,.d,.d,.d,.d,.d,.d,.d,.d,.d,.d,.d,.d,.d,.d,.d,.d,.d,.d,.d] (by kernel_rfl) (by kernel_rfl) (by kernel_rfl) ?_
      simp only [takS,Exs]
      iterate 27 apply Exists.intro
      apply Run.valG (wanted_none rfl _)
      ·intro w1 h1 hk
       go_simp;rfl
      simp only [actS]
      apply Run.valG (wanted_none rfl _)
      ·intro w1 h1 hk
       have q0:=h1.cell t0;have q1:=h1.cell t1;have q2:=h1.cell t2;have hg:=(Fut.drew _).trans h1
       have hcw:=fun b o => Below.cell (p:=⟨b,o,none⟩) h1
       go_simp;rfl
      simp only [actS]
      iterate 2
       apply Run.valG (wanted_none rfl _)
       ·intro w1 h1 hk
        go_simp;rfl
       simp only [actS]
      apply Run.valG (wanted_none rfl _)
      ·intro w1 h1 hk
       have q0:=h1.cell t0;have q1:=h1.cell t1;have q2:=h1.cell t2;have hg:=(Fut.drew _).trans h1
       have hcw:=fun b o => Below.cell (p:=⟨b,o,none⟩) h1
       exact exec_load_mid _ _ rfl gl (ol + q * 2) rfl _ _ (rangeAt_fut rl hg) Tryz.underlying126 rfl (sizeLevel m)
      simp only [actS]
      apply Run.valG (wanted_none rfl _)
      ·intro w1 h1 hk
       go_simp;rfl
      simp only [actS]
      apply Run.valG (wanted_none rfl _)
      ·intro w1 h1 hk
       have q0:=h1.cell t0;have q1:=h1.cell t1;have q2:=h1.cell t2;have hg:=(Fut.drew _).trans h1
       have hcw:=fun b o => Below.cell (p:=⟨b,o,none⟩) h1
       go_simp;rfl
      simp only [actS]
      apply Run.call (wanted_none rfl _) (fun _ _ => by go_simp;exact ⟨rfl,rfl⟩)
      ·intro w1 h1 hk
       have q0:=h1.cell t0;have q1:=h1.cell t1;have q2:=h1.cell t2;have hg:=(Fut.drew _).trans h1
       refine (isLevel_any m hmn.1 hmn.2 _ (HPq.out _ hg)).mono ?_;rintro e w' ⟨rfl,hf⟩;exact ⟨rfl,hf⟩
      simp only [actS]
      iterate 2
       apply Run.valG (wanted_none rfl _)
       ·intro w1 h1 hk
        go_simp;rfl
       simp only [actS]
      iterate 2
       apply Run.valG (by go_simp)
       ·intro w1 h1 hk
        go_simp;rfl
       simp only [actS]
      iterate 2
       apply Run.valG (by go_simp)
       ·intro w1 h1 hk
        have q0:=h1.cell t0;have q1:=h1.cell t1;have q2:=h1.cell t2;have hg:=(Fut.drew _).trans h1
        have hcw:=fun b o => Below.cell (p:=⟨b,o,none⟩) h1
        go_simp;rfl
       simp only [actS]
      iterate 3
       apply Run.valG (by go_simp)
       ·intro w1 h1 hk
        go_simp;rfl
       simp only [actS]
      apply Run.valG (by go_simp)
      ·intro w1 h1 hk
       have q0:=h1.cell t0;have q1:=h1.cell t1;have q2:=h1.cell t2;have hg:=(Fut.drew _).trans h1
       have hcw:=fun b o => Below.cell (p:=⟨b,o,none⟩) h1
       go_simp;rfl
      simp only [actS]
      iterate 2
       apply Run.valG (by go_simp)
       ·intro w1 h1 hk
        go_simp;rfl
       simp only [actS]
      apply Run.valG (by go_simp)
      ·intro w1 h1 hk
       have q0:=h1.cell t0;have q1:=h1.cell t1;have q2:=h1.cell t2;have hg:=(Fut.drew _).trans h1
       have hcw:=fun b o => Below.cell (p:=⟨b,o,none⟩) h1
       exact exec_load_mid _ _ rfl gs (os + q * 2) rfl _ _ (rangeAt_fut rs hg) Tryz.underlying126 rfl (sizeLevel m)
      simp only [actS]
      apply Run.valG (by go_simp)
      ·intro w1 h1 hk
       go_simp;rfl
      simp only [actS]
      apply Run.valG (by go_simp)
      ·intro w1 h1 hk
       have q0:=h1.cell t0;have q1:=h1.cell t1;have q2:=h1.cell t2;have hg:=(Fut.drew _).trans h1
       have hcw:=fun b o => Below.cell (p:=⟨b,o,none⟩) h1
       go_simp;rfl
      simp only [actS]
      apply Run.call (by go_simp) (fun _ _ => by go_simp;exact ⟨rfl,rfl⟩)
      ·intro w1 h1 hk
       have q0:=h1.cell t0;have q1:=h1.cell t1;have q2:=h1.cell t2;have hg:=(Fut.drew _).trans h1
       refine (isLevel_any m hmn.1 hmn.2 _ (HPq.out _ hg)).mono ?_;rintro e w' ⟨rfl,hf⟩;exact ⟨rfl,hf⟩
      simp only [actS]
      iterate 2
       apply Run.valG (by go_simp)
       ·intro w1 h1 hk
        go_simp;rfl
       simp only [actS]
      apply Run.valG (wanted_none rfl _)
      ·intro w1 h1 hk
       go_simp;rfl
      simp only [actS]
      apply Run.done
      intro w2 h2 hk
      clear hk
      go_wp2
      go_roundw
      case rel => exact ⟨q + 1,by omega,by go_num,Lib.hid (hG2.out.trans ((Fut.drew _).trans h2))⟩
      case measure => simp [intOf] <;> omega
     ·have hqsI:¬ (q:Int) < (ns k:Int):=by omega
      go_wp2_with fail
      refine wp_graph 27 [.d,.d,.d,.d,.d,.d,.d,.d,.d,.d,.d,.d,.d,.d,.d,.d,.d,.d,.d,.d,.d,.d,.d,.d,.d,.d,.d] (by kernel_rfl) (by kernel_rfl) (by kernel_rfl) ?_
      simp only [takS,Exs]
      iterate 27 apply Exists.intro
      apply Run.valG (wanted_none rfl _)
      ·intro w1 h1 hk
       go_simp;rfl
      simp only [actS]
      apply Run.valG (wanted_none rfl _)
      ·intro w1 h1 hk
       have q0:=h1.cell t0;have q1:=h1.cell t1;have q2:=h1.cell t2;have hg:=(Fut.drew _).trans h1
       have hcw:=fun b o => Below.cell (p:=⟨b,o,none⟩) h1
       go_simp;rfl
      simp only [actS]
      iterate 2
       apply Run.valG (wanted_none rfl _)
       ·intro w1 h1 hk
        go_simp;rfl
       simp only [actS]
      apply Run.valG (wanted_none rfl _)
      ·intro w1 h1 hk
       have q0:=h1.cell t0;have q1:=h1.cell t1;have q2:=h1.cell t2;have hg:=(Fut.drew _).trans h1
       have hcw:=fun b o => Below.cell (p:=⟨b,o,none⟩) h1
       exact exec_load_mid _ _ rfl gl (ol + q * 2) rfl _ _ (rangeAt_fut rl hg) Tryz.underlying126 rfl (sizeLevel m)
      simp only [actS]
      apply Run.valG (wanted_none rfl _)
      ·intro w1 h1 hk
       go_simp;rfl
      simp only [actS]
      apply Run.valG (wanted_none rfl _)
      ·intro w1 h1 hk
       have q0:=h1.cell t0;have q1:=h1.cell t1;have q2:=h1.cell t2;have hg:=(Fut.drew _).trans h1
       have hcw:=fun b o => Below.cell (p:=⟨b,o,none⟩) h1
       go_simp;rfl
      simp only [actS]
      apply Run.call (wanted_none rfl _) (fun _ _ => by go_simp;exact ⟨rfl,rfl⟩)
      ·intro w1 h1 hk
       have q0:=h1.cell t0;have q1:=h1.cell t1;have q2:=h1.cell t2;have hg:=(Fut.drew _).trans h1
       refine (isLevel_any m hmn.1 hmn.2 _ (HPq.out _ hg)).mono ?_;rintro e w' ⟨rfl,hf⟩;exact ⟨rfl,hf⟩
      simp only [actS]
      iterate 2
       apply Run.valG (wanted_none rfl _)
       ·intro w1 h1 hk
        go_simp;rfl
       simp only [actS]
      iterate 2
       apply Run.valG (by go_simp)
       ·intro w1 h1 hk
        go_simp;rfl
       simp only [actS]
      iterate 2
       apply Run.valG (by go_simp)
       ·intro w1 h1 hk
        have q0:=h1.cell t0;have q1:=h1.cell t1;have q2:=h1.cell t2;have hg:=(Fut.drew _).trans h1
        have hcw:=fun b o => Below.cell (p:=⟨b,o,none⟩) h1
        go_simp;rfl
       simp only [actS]
      iterate 2
       apply Run.valG (by go_simp)
       ·intro w1 h1 hk
        go_simp;rfl
       simp only [actS]
      iterate 9
       apply Run.skip (by first | (go_simp;done) | (go_simp;exact fun h => nomatch h))
       simp only [actS]
      apply Run.valG (by go_simp)
      ·intro w1 h1 hk
       go_simp;rfl
      simp only [actS]
      apply Run.valG (wanted_none rfl _)
      ·intro w1 h1 hk
       go_simp;rfl
      simp only [actS]
      apply Run.done
      intro w2 h2 hk
      clear hk
      go_wp2
      go_roundw
      case rel => exact ⟨q + 1,by omega,by go_num,Lib.hid (hG2.out.trans ((Fut.drew _).trans h2))⟩
      case measure => simp [intOf] <;> omega
    ·obtain rfl:q = ns k + 70:=by omega
     go_wp2
     go_roundw
     case rel => exact ⟨k + 1,by omega,by go_num,Lib.hid (hG.out.trans (F1'.out.trans hG2.out))⟩
     case measure => simp [intOf] <;> omega
  ·obtain rfl:k = hs.length:=by omega
   go_wp2
   go_ret
   exact ⟨rfl,hG.out⟩
theorem infoHLevel:(Tryz.prog.info? 248).map (fun i => (i.zero,i.size,i.bytes)) = some (some (.agg #[.slice none 0 0,.slice none 0 0,.int .i64 0]),3,56):=by kernel_rfl
set_option maxHeartbeats 1600000 in
set_option maxRecDepth 100000 in
theorem keepLevel_any {B:Nat} {w:World} {b:Nat} {n:Int} {vs:Nat→Value} {hs:List Hd} {Al:Option Addr} {nl cl:Nat} (hb:BookAt 65 w b n vs) (hn:0 ≤ n∧n < 1000) (hH:OwnL 3 B 248 RH w (vs 21) hs) (hvb:(vs 21).ownBlock ≠ some b) (hB:B ≤ w.heap.size) (hl:hs.length < 1000) :
    Calls Tryz.prog 80 #[.pointer (some ⟨b,0,none⟩),.slice Al nl cl] w fun e w' => (∃ u,e = .returned u)∧∃ v',BookAt 65 w' b (n + 1) (updV vs 21 v')∧OwnL 3 B 248 RH w' v' (hs ++ [⟨.slice Al nl cl,.slice none 0 0,n + 1⟩]) ∧
     Only (fun k => k = b∨(vs 21).ownBlock = some k) w w'∧∀ x,v'.ownBlock = some x→(vs 21).ownBlock = some x∨w.heap.size ≤ x:=by
 have HB:=Lib.hid hb
 have HH:=Lib.hid hH
 have cn:=hb.num
 have zn:=hb.free 0
 have hbl:=hb.lt
 obtain ⟨A,cap,hv,hcl,hcm⟩:=hH.rep.form
 have hvb':∀ x,(vs 21).ownBlock = some x→x ≠ b∧x < w.heap.size:=fun x hx => ⟨fun e => hvb (e ▸ hx),(hH.block x hx).2⟩
 have HVB:=Lib.hid hvb'
 have e1:IntKind.i64.wrap (n + 1) = n + 1:=by rw [IntKind.wrap_i64];omega
 clear hb hH hvb hvb'
 go_enter Tryz.func80,Tryz.ntmps80
 go_wp2_with fail
 have O1:Only (fun k => k = b) w (w.setCell ⟨b,0,none⟩ (.int .i64 (n + 1))):=Only.set _ _ rfl
 have hB1:=HB.out.setN (m:=n + 1)
 obtain ⟨w1,hw1⟩:∃ W,w.setCell ⟨b,0,none⟩ (.int .i64 (n + 1)) = W:=⟨_,rfl⟩
 rw [hw1] at O1 hB1 ⊢
 clear hw1 cn zn
 have cv:w1.cell? ⟨b,21,none⟩ = some (.slice A hs.length cap):=by rw [← hv];exact hB1.cell (by omega) (by omega)
 have cn:=hB1.num
 have HB1:=Lib.hid hB1
 have s1:=O1.size
 have HH1:=Lib.hid (HH.out.only (RH.same _ _) O1 fun x hx e => (HVB.out x hx).1 e)
 clear hB1
 refine wp_graph0 12 [.d,.d,.d,.d,.d,.d,.d,.d,.d,.d,.d,.r (fun v w => ∃ g,v = .slice (some ⟨g,0,none⟩) 1 1∧w.heap[g]? = some (.cells #[.slice Al nl cl,.slice none 0 0,.int .i64 (n + 1)] 248 (0,0)))] (by kernel_rfl) (by kernel_rfl) (by kernel_rfl) (by decide) (by intro c v w a o ho h;obtain rfl:=Option.some.inj ho;exact h) (by kernel_rfl) ?_
 simp only [takS,Exs]
 iterate 11 apply Exists.intro
 iterate 2
  apply Run.valG (wanted_none rfl _)
  ·intro w1 h1 hk
   go_simp;rfl
  simp only [actS]
 apply Run.valG (wanted_none rfl _)
 ·intro w1 h1 hk
  have q0:=h1.cell cv;have q1:=h1.cell cn
  have hcw:=fun b o => Below.cell (p:=⟨b,o,none⟩) h1
  go_simp;rfl
 simp only [actS]
 apply Run.valG (wanted_none rfl _)
 ·intro w1 h1 hk
  go_simp;rfl
 simp only [actS]
 apply Run.valG (wanted_none rfl _)
 ·intro w1 h1 hk
  have q0:=h1.cell cv;have q1:=h1.cell cn
  have hcw:=fun b o => Below.cell (p:=⟨b,o,none⟩) h1
  go_simp;rfl
 simp only [actS]
 iterate 2
  apply Run.valG (wanted_none rfl _)
  ·intro w1 h1 hk
   go_simp;rfl
  simp only [actS]
 apply Run.valG (wanted_none rfl _)
 ·intro w1 h1 hk
  have q0:=h1.cell cv;have q1:=h1.cell cn
  have hcw:=fun b o => Below.cell (p:=⟨b,o,none⟩) h1
  go_simp;rfl
 simp only [actS]
 apply Run.valG (wanted_none rfl _)
 ·intro w1 h1 hk
  go_simp;rfl
 simp only [actS]
 iterate 2
  apply Run.valG (wanted_none rfl _)
  ·intro w1 h1 hk
   have q0:=h1.cell cv;have q1:=h1.cell cn
   have hcw:=fun b o => Below.cell (p:=⟨b,o,none⟩) h1
   go_simp;rfl
  simp only [actS]
 apply Run.valR (wanted_none rfl _) (by intro v w w' hf hs;exact (by obtain ⟨g,rfl,h⟩:=hs;exact ⟨g,rfl,hf.block h⟩))
 ·intro w1 h1 hk
  have q0:=h1.cell cv;have q1:=h1.cell cn
  exact ⟨.slice (some ⟨w1.heap.size,0,none⟩) 1 1,_,(by go_simp),Fut.alloc _ _,_,rfl,heap_alloc_new _ _⟩
 intro v11
 simp only [actS]
 apply Run.done
 intro w2 h2 hk
 obtain ⟨f11,_⟩:=hk
 obtain ⟨g,rfl,hg⟩:=f11
 have F2:=(Fut.drew _).trans h2
 have hOa:=HH1.out.fut RH.stays F2
 rw [hv] at hOa
 have hB2:=HB1.out.only (S:=fun _ => False) (Only.fut F2) (fun h => h)
 have hbs:B ≤ w2.heap.size:=Nat.le_trans hB (Nat.le_trans s1 F2.size)
 have hvn:¬ (Value.slice A hs.length cap).ownBlock = some b:=fun h => (HVB.out b (hv ▸ h)).1 rfl
 clear h2 cv cn
 go_wp2_with (first | (refine wpList_append1 (P:=Tryz.prog) (e:=248) (e':=248) (cs:=Hd.cells ⟨.slice Al nl cl,.slice none 0 0,n + 1⟩) (y:=⟨.slice Al nl cl,.slice none 0 0,n + 1⟩) (wanted_none rfl _) _ _ rfl Tryz.underlying53 infoHLevel rfl (by omega) RH.one (fun _ cs x h _ => RH.same _ _ cs x h) rfl rfl hOa hg rfl ⟨rfl,⟨_,_,_,rfl⟩,_,_,_,rfl⟩ (by unfold maxLen;omega) (by omega) hbs ?_;intro v3 w3 hO3 hG3 hB3;obtain ⟨A3,c3,hv3,_⟩:=hO3.rep.form;rw [List.length_append,List.length_singleton] at hv3;have O3:Only (fun k => (Value.slice A hs.length cap).ownBlock = some k) w2 w3:=Only.grown hG3 (fun k hk => hk);have hB4:=hB2.only O3 hvn;have x4:=hB4.cell (j:=21) (by omega) (by omega);have z4:=hB4.free 21;subst hv3))
 go_end0
 have OS:Only (fun k => k = b) w3 (w3.setCell ⟨b,21,none⟩ (.slice A3 (hs.length + 1) c3)):=Only.set _ _ rfl
 have s2:=F2.size
 have hfr:∀ x,(Value.slice A3 (hs.length + 1) c3).ownBlock = some x→(vs 21).ownBlock = some x∨w2.heap.size ≤ x:=fun x hx => by
  rcases hB3 with h | ⟨h,_⟩
  ·exact .inl (by rw [hv];exact (show _ = (Value.slice A hs.length cap).ownBlock from h).symm.trans hx)
  ·rw [h] at hx;injection hx with hx;exact .inr (by omega)
 refine ⟨⟨_,rfl⟩,_,hB4.setV (by omega) (by omega),hO3.only (RH.same _ _) OS (fun x hx e => ?_),?_,fun x hx => (hfr x hx).imp id fun h => by omega⟩
 ·subst e
  rcases hfr _ hx with h | h
  ·exact (HVB.out _ h).1 rfl
  ·omega
 ·rw [hv]
  exact ((O1.mono fun k _ hk => .inl hk).trans (Only.fut F2)).trans ((O3.mono fun k _ hk => .inr hk).trans (OS.mono fun k _ hk => .inl hk))
theorem addLevels_any {B:Nat} {w:World} {b:Nat} {n:Int} {vs:Nat→Value} {hs:List Hd} {Al:Option Addr} {nl cl:Nat} (hb:BookAt 65 w b n vs) (hn:0 ≤ n∧n < 1000) (hH:OwnL 3 B 248 RH w (vs 21) hs) (hvb:(vs 21).ownBlock ≠ some b) (hB:B ≤ w.heap.size) (hl:hs.length < 1000) :
    Calls Tryz.prog 20 #[.pointer (some ⟨b,0,none⟩),.slice Al nl cl] w fun e w' => (∃ u,e = .returned u)∧∃ v',BookAt 65 w' b (n + 1) (updV vs 21 v')∧OwnL 3 B 248 RH w' v' (hs ++ [⟨.slice Al nl cl,.slice none 0 0,n + 1⟩]) ∧
     Only (fun k => k = b∨(vs 21).ownBlock = some k) w w'∧∀ x,v'.ownBlock = some x→(vs 21).ownBlock = some x∨w.heap.size ≤ x:=by
 have HK:=Lib.hid (keepLevel_any (Al:=Al) (nl:=nl) (cl:=cl) hb hn hH hvb hB hl)
 clear hb hH
 go_enter Tryz.func20,Tryz.ntmps20
 go_wp2_with fail
 refine HK.out.mono ?_
 rintro e w2 ⟨⟨u,rfl⟩,hr⟩
 have HR:=Lib.hid hr
 clear hr
 go_wp2
 go_end0
 exact ⟨⟨_,rfl⟩,HR.out⟩
def OnlyLevel (vs:Nat→Value):Prop:=∀ j,j ≠ 21→vs j = .slice none 0 0
theorem OnlyLevel.fill {w:World} {b f j:Nat} {n:Int} {vs:Nat→Value} (hv:OnlyLevel vs) (h:NilB f j) (hb:BookAt 65 w b n vs) (h1:1 ≤ j∧j < 32∧j ≠ 21) {K:Ending→World→Prop} (k:∀ u,K (.returned u) w):Calls Tryz.prog f #[.pointer (some ⟨b,0,none⟩)] w K :=
 (h (by rw [← hv j h1.2.2];exact hb.cell h1.1 h1.2.1)).mono (by rintro e w' ⟨⟨u,rfl⟩,rfl⟩;exact k u)
theorem OnlyLevel.look {w:World} {b f j:Nat} {n:Int} {vs:Nat→Value} (hv:OnlyLevel vs) (h:NilL f j) (hb:BookAt 65 w b n vs) (h1:1 ≤ j∧j < 32∧j ≠ 21) {K:Ending→World→Prop} (k:K (.returned (.bool true)) w):Calls Tryz.prog f #[.pointer (some ⟨b,0,none⟩)] w K :=
 (h (by rw [← hv j h1.2.2];exact hb.cell h1.1 h1.2.1)).mono (by rintro e w' ⟨rfl,rfl⟩;exact k)
set_option maxHeartbeats 1600000 in
set_option maxRecDepth 100000 in
theorem lookOneLevel_any {w:World} {b:Nat} {n:Int} {vs:Nat→Value} {hs:List Hd} {ns:Nat→Nat} (hb:BookAt 65 w b n vs) (hv:OnlyLevel vs) (hI:SlRep 3 maxLen RH w (vs 21) hs) (lI:Looks 2 RLv markLevelP ns w hs)
    (bI:∀ i,i < hs.length→ns i + 70 ≤ 5864062014805) (hPW:∀ W,Fut w W→Pows W) (hNN:∀ (i:Nat) (h:Hd),hs[i]? = some h→0 ≤ h.n∧h.n ≤ 1000000) :
    Calls Tryz.prog 72 #[.pointer (some ⟨b,0,none⟩)] w fun e w' => e = .returned (.bool true)∧Fut w w':=by
 have HB:=Lib.hid hb
 have HV:=Lib.hid hv
 have HI:=Lib.hid hI
 have LI:=Lib.hid lI
 have BI:=Lib.hid bI
 have HPW:=Lib.hid hPW
 have HNN:=Lib.hid hNN
 clear hPW hNN
 clear hb hv hI lI bI
 go_enter Tryz.func72,Tryz.ntmps72
 have F0:=Lib.hid (Fut.refl w)
 go_wp2_with fail
 refine HV.out.look lookValue_nil HB.out (by decide) ?_
 go_wp2_with fail
 refine HV.out.look lookTuple_nil HB.out (by decide) ?_
 go_wp2_with fail
 refine HV.out.look lookFact_nil HB.out (by decide) ?_
 go_wp2_with fail
 refine HV.out.look lookTerm_nil HB.out (by decide) ?_
 go_wp2_with fail
 refine HV.out.look lookExpr_nil HB.out (by decide) ?_
 go_wp2_with fail
 refine HV.out.look lookLiteral_nil HB.out (by decide) ?_
 go_wp2_with fail
 refine HV.out.look lookArg_nil HB.out (by decide) ?_
 go_wp2_with fail
 refine HV.out.look lookRule_nil HB.out (by decide) ?_
 go_wp2_with fail
 refine HV.out.look lookPair_nil HB.out (by decide) ?_
 go_wp2_with fail
 refine HV.out.look lookBind_nil HB.out (by decide) ?_
 go_wp2_with fail
 refine HV.out.look lookBindList_nil HB.out (by decide) ?_
 go_wp2_with fail
 refine HV.out.look lookText_nil HB.out (by decide) ?_
 go_wp2_with fail
 refine HV.out.look lookTextList_nil HB.out (by decide) ?_
 go_wp2_with fail
 refine HV.out.look lookInt_nil HB.out (by decide) ?_
 go_wp2_with fail
 refine HV.out.look lookRow_nil HB.out (by decide) ?_
 go_wp2_with fail
 refine HV.out.look lookToken_nil HB.out (by decide) ?_
 go_wp2
 go_ret
 exact ⟨rfl,F0.out⟩
set_option maxHeartbeats 1600000 in
set_option maxRecDepth 100000 in
theorem lookTwoLevel_any {w:World} {b:Nat} {n:Int} {vs:Nat→Value} {hs:List Hd} {ns:Nat→Nat} (hb:BookAt 65 w b n vs) (hv:OnlyLevel vs) (hI:SlRep 3 maxLen RH w (vs 21) hs) (lI:Looks 2 RLv markLevelP ns w hs)
    (bI:∀ i,i < hs.length→ns i + 70 ≤ 5864062014805) (hPW:∀ W,Fut w W→Pows W) (hNN:∀ (i:Nat) (h:Hd),hs[i]? = some h→0 ≤ h.n∧h.n ≤ 1000000) :
    Calls Tryz.prog 73 #[.pointer (some ⟨b,0,none⟩)] w fun e w' => e = .returned (.bool true)∧Fut w w':=by
 have HB:=Lib.hid hb
 have HV:=Lib.hid hv
 have HI:=Lib.hid hI
 have LI:=Lib.hid lI
 have BI:=Lib.hid bI
 have HPW:=Lib.hid hPW
 have HNN:=Lib.hid hNN
 clear hPW hNN
 clear hb hv hI lI bI
 go_enter Tryz.func73,Tryz.ntmps73
 have F0:=Lib.hid (Fut.refl w)
 go_wp2_with fail
 refine HV.out.look lookPred_nil HB.out (by decide) ?_
 go_wp2_with fail
 refine HV.out.look lookType_nil HB.out (by decide) ?_
 go_wp2_with fail
 refine HV.out.look lookSig_nil HB.out (by decide) ?_
 go_wp2_with fail
 refine HV.out.look lookEdge_nil HB.out (by decide) ?_
 go_wp2_with fail
 refine (lookLevel_any (M:=0) ((HB.out.only (S:=fun _ => False) (Only.fut F0.out) (fun h => h)).cell (j:=21) (by omega) (by omega)) (HI.out.fut RH.stays F0.out) (LI.out.fut RLv.stays F0.out) BI.out (fun W hW => HPW.out W (F0.out.trans hW)) HNN.out).mono ?_
 rintro e w1 ⟨rfl,hf1⟩
 have F1:=Lib.hid (F0.out.trans hf1)
 clear hf1
 go_wp2_with fail
 refine HV.out.look lookMask_nil (HB.out.only (S:=fun _ => False) (Only.fut F1.out) id) (by decide) ?_
 go_wp2_with fail
 refine HV.out.look lookStep_nil (HB.out.only (S:=fun _ => False) (Only.fut F1.out) id) (by decide) ?_
 go_wp2_with fail
 refine HV.out.look lookRanked_nil (HB.out.only (S:=fun _ => False) (Only.fut F1.out) id) (by decide) ?_
 go_wp2_with fail
 refine HV.out.look lookAdorned_nil (HB.out.only (S:=fun _ => False) (Only.fut F1.out) id) (by decide) ?_
 go_wp2_with fail
 refine HV.out.look lookTable_nil (HB.out.only (S:=fun _ => False) (Only.fut F1.out) id) (by decide) ?_
 go_wp2_with fail
 refine HV.out.look lookProof_nil (HB.out.only (S:=fun _ => False) (Only.fut F1.out) id) (by decide) ?_
 go_wp2_with fail
 refine HV.out.look lookSize_nil (HB.out.only (S:=fun _ => False) (Only.fut F1.out) id) (by decide) ?_
 go_wp2_with fail
 refine HV.out.look lookFloat_nil (HB.out.only (S:=fun _ => False) (Only.fut F1.out) id) (by decide) ?_
 go_wp2_with fail
 refine HV.out.look lookCommit_nil (HB.out.only (S:=fun _ => False) (Only.fut F1.out) id) (by decide) ?_
 go_wp2_with fail
 refine HV.out.look lookEvent_nil (HB.out.only (S:=fun _ => False) (Only.fut F1.out) id) (by decide) ?_
 go_wp2
 go_ret
 exact ⟨rfl,F1.out⟩
structure B1Level (B:Nat) (w:World) (b:Nat) (n:Int) (vs:Nat→Value) (hs:List Hd) (fi:Nat→List (ByteArray × Nat)):Prop where
 book:BookAt 65 w b n vs
 only:OnlyLevel vs
 held:OwnL 3 B 248 RH w (vs 21) hs
 lists:Lists 2 B 126 RLv w hs fi
 base:B ≤ w.heap.size
section
variable {B:Nat} {w w':World} {b:Nat} {n:Int} {vs:Nat→Value} {hs:List Hd} {fi:Nat→List (ByteArray × Nat)}
theorem B1Level.tB (h:B1Level B w b n vs hs fi):Ty w 65 b:=by
 obtain ⟨arr,h0,_⟩:=h.book.blk
 exact ⟨arr,h0⟩
theorem B1Level.tH (h:B1Level B w b n vs hs fi) {k:Nat} (hk:(vs 21).ownBlock = some k):Ty w 248 k:=h.held.typed k hk
theorem B1Level.tI (h:B1Level B w b n vs hs fi) {k:Nat} (hk:ownsL hs k):Ty w 126 k:=h.lists.typed k hk
def ownsLevel (vs:Nat→Value) (hs:List Hd) (k:Nat):Prop:=ownsL hs k∨(vs 21).ownBlock = some k
set_option maxHeartbeats 1600000 in
set_option maxRecDepth 100000 in
theorem growAllLevel_any {ns:Nat→Nat} (h:B1Level B w b n vs hs (fun i => List.replicate (ns i) (markLevelP ((hs.getD i ⟨.slice none 0 0,.slice none 0 0,0⟩).n)))) (bI:∀ i,i < hs.length→ns i + 70 ≤ 5864062014805) (hPW:∀ W,Only (fun k => B ≤ k) w W→Pows W) (hNN:∀ (i:Nat) (h:Hd),hs[i]? = some h→0 ≤ h.n∧h.n ≤ 1000000) :
    Calls Tryz.prog 71 #[.pointer (some ⟨b,0,none⟩)] w fun e w' => (∃ u,e = .returned u)∧∃ hs',hs'.length = hs.length∧BookAt 65 w' b n vs∧SlRep 3 maxLen RH w' (vs 21) hs'∧Looks 2 RLv markLevelP ns w' hs'∧Only (ownsLevel vs hs) w w'∧(∀ (i:Nat) (h:Hd),hs'[i]? = some h→0 ≤ h.n∧h.n ≤ 1000000):=by
 have H:=Lib.hid h
 have HV:=Lib.hid h.only
 have BI:=Lib.hid bI
 have HPW:=Lib.hid hPW
 have HNN:=Lib.hid hNN
 clear hPW hNN
 clear h bI
 go_enter Tryz.func71,Tryz.ntmps71
 go_wp2_with fail
 refine HV.out.fill growValue_nil H.out.book (by decide) ?_
 intro u
 go_wp2_with fail
 refine HV.out.fill growTuple_nil H.out.book (by decide) ?_
 intro u
 go_wp2_with fail
 refine HV.out.fill growFact_nil H.out.book (by decide) ?_
 intro u
 go_wp2_with fail
 refine HV.out.fill growTerm_nil H.out.book (by decide) ?_
 intro u
 go_wp2_with fail
 refine HV.out.fill growExpr_nil H.out.book (by decide) ?_
 intro u
 go_wp2_with fail
 refine HV.out.fill growLiteral_nil H.out.book (by decide) ?_
 intro u
 go_wp2_with fail
 refine HV.out.fill growArg_nil H.out.book (by decide) ?_
 intro u
 go_wp2_with fail
 refine HV.out.fill growRule_nil H.out.book (by decide) ?_
 intro u
 go_wp2_with fail
 refine HV.out.fill growPair_nil H.out.book (by decide) ?_
 intro u
 go_wp2_with fail
 refine HV.out.fill growBind_nil H.out.book (by decide) ?_
 intro u
 go_wp2_with fail
 refine HV.out.fill growBindList_nil H.out.book (by decide) ?_
 intro u
 go_wp2_with fail
 refine HV.out.fill growText_nil H.out.book (by decide) ?_
 intro u
 go_wp2_with fail
 refine HV.out.fill growTextList_nil H.out.book (by decide) ?_
 intro u
 go_wp2_with fail
 refine HV.out.fill growInt_nil H.out.book (by decide) ?_
 intro u
 go_wp2_with fail
 refine HV.out.fill growRow_nil H.out.book (by decide) ?_
 intro u
 go_wp2_with fail
 refine HV.out.fill growToken_nil H.out.book (by decide) ?_
 intro u
 go_wp2_with fail
 refine HV.out.fill growPred_nil H.out.book (by decide) ?_
 intro u
 go_wp2_with fail
 refine HV.out.fill growType_nil H.out.book (by decide) ?_
 intro u
 go_wp2_with fail
 refine HV.out.fill growSig_nil H.out.book (by decide) ?_
 intro u
 go_wp2_with fail
 refine HV.out.fill growEdge_nil H.out.book (by decide) ?_
 intro u
 go_wp2_with fail
 refine (growLevel_any (H.out.book.cell (j:=21) (by omega) (by omega)) H.out.held H.out.lists (fun hk => H.out.tI hk |>.ne H.out.tB (by decide) rfl) (fun hk => H.out.tH hk |>.ne H.out.tB (by decide) rfl) (fun k hk hk2 => (H.out.tH hk).ne (H.out.tI hk2) (by decide) rfl) H.out.base BI.out HPW.out HNN.out).mono ?_
 rintro e w2 ⟨⟨u,rfl⟩,hs',hG⟩
 have HNN':=Lib.hid (fun i h hi => (hG.num (P:=fun n => 0 ≤ n∧n ≤ 1000000) HNN.out i h hi))
 have O2:=hG.only
 have hB2:=H.out.book.only O2 (fun hk => hk.elim (fun hk => H.out.tI hk |>.ne H.out.tB (by decide) rfl) fun hk => H.out.tH hk |>.ne H.out.tB (by decide) rfl)
 obtain ⟨gI,kI⟩:=hG.looks (W':=w2) (S:=fun _ => False) (RLv.same _ _) (Only.refl _) (fun k hk => hk.elim)
 have HB2:=Lib.hid hB2
 have HX:=Lib.hid (show hs'.length = hs.length∧SlRep 3 maxLen RH w2 (vs 21) hs'∧Looks 2 RLv markLevelP ns w2 hs'∧Only (ownsLevel vs hs) w w2 from ⟨hG.len,gI.rep,kI,O2⟩)
 clear hB2 hG O2 gI kI
 go_wp2_with fail
 refine HV.out.fill growMask_nil HB2.out (by decide) ?_
 intro u
 go_wp2_with fail
 refine HV.out.fill growStep_nil HB2.out (by decide) ?_
 intro u
 go_wp2_with fail
 refine HV.out.fill growRanked_nil HB2.out (by decide) ?_
 intro u
 go_wp2_with fail
 refine HV.out.fill growAdorned_nil HB2.out (by decide) ?_
 intro u
 go_wp2_with fail
 refine HV.out.fill growTable_nil HB2.out (by decide) ?_
 intro u
 go_wp2_with fail
 refine HV.out.fill growProof_nil HB2.out (by decide) ?_
 intro u
 go_wp2_with fail
 refine HV.out.fill growSize_nil HB2.out (by decide) ?_
 intro u
 go_wp2_with fail
 refine HV.out.fill growFloat_nil HB2.out (by decide) ?_
 intro u
 go_wp2_with fail
 refine HV.out.fill growCommit_nil HB2.out (by decide) ?_
 intro u
 go_wp2_with fail
 refine HV.out.fill growEvent_nil HB2.out (by decide) ?_
 intro u
 go_wp2
 go_end0
 obtain ⟨x1,x2,x3,x4⟩:=HX.out
 exact ⟨⟨_,rfl⟩,hs',x1,HB2.out,x2,x3,x4,HNN'.out⟩
set_option maxHeartbeats 1600000 in
set_option maxRecDepth 100000 in
theorem apartLevel_any (h:B1Level B w b n vs hs fi) (bI:∀ i,i < hs.length→(fi i).length + 70 ≤ 5864062014805) (hPW:∀ W,Only (fun k => B ≤ k) w W→Pows W) (hNN:∀ (i:Nat) (h:Hd),hs[i]? = some h→0 ≤ h.n∧h.n ≤ 1000000) :
    Calls Tryz.prog 15 #[.pointer (some ⟨b,0,none⟩)] w fun e w' => e = .returned (.bool true)∧Only (ownsLevel vs hs) w w':=by
 have H:=Lib.hid h
 have HV:=Lib.hid h.only
 have BI:=Lib.hid bI
 have HPW:=Lib.hid hPW
 have HNN:=Lib.hid hNN
 clear hPW hNN
 clear h bI
 go_enter Tryz.func15,Tryz.ntmps15
 go_wp2_with fail
 refine HV.out.fill fillValue_nil H.out.book (by decide) ?_
 intro u
 go_wp2_with fail
 refine HV.out.fill fillTuple_nil H.out.book (by decide) ?_
 intro u
 go_wp2_with fail
 refine HV.out.fill fillFact_nil H.out.book (by decide) ?_
 intro u
 go_wp2_with fail
 refine HV.out.fill fillTerm_nil H.out.book (by decide) ?_
 intro u
 go_wp2_with fail
 refine HV.out.fill fillExpr_nil H.out.book (by decide) ?_
 intro u
 go_wp2_with fail
 refine HV.out.fill fillLiteral_nil H.out.book (by decide) ?_
 intro u
 go_wp2_with fail
 refine HV.out.fill fillArg_nil H.out.book (by decide) ?_
 intro u
 go_wp2_with fail
 refine HV.out.fill fillRule_nil H.out.book (by decide) ?_
 intro u
 go_wp2_with fail
 refine HV.out.fill fillPair_nil H.out.book (by decide) ?_
 intro u
 go_wp2_with fail
 refine HV.out.fill fillBind_nil H.out.book (by decide) ?_
 intro u
 go_wp2_with fail
 refine HV.out.fill fillBindList_nil H.out.book (by decide) ?_
 intro u
 go_wp2_with fail
 refine HV.out.fill fillText_nil H.out.book (by decide) ?_
 intro u
 go_wp2_with fail
 refine HV.out.fill fillTextList_nil H.out.book (by decide) ?_
 intro u
 go_wp2_with fail
 refine HV.out.fill fillInt_nil H.out.book (by decide) ?_
 intro u
 go_wp2_with fail
 refine HV.out.fill fillRow_nil H.out.book (by decide) ?_
 intro u
 go_wp2_with fail
 refine HV.out.fill fillToken_nil H.out.book (by decide) ?_
 intro u
 go_wp2_with fail
 refine HV.out.fill fillPred_nil H.out.book (by decide) ?_
 intro u
 go_wp2_with fail
 refine HV.out.fill fillType_nil H.out.book (by decide) ?_
 intro u
 go_wp2_with fail
 refine HV.out.fill fillSig_nil H.out.book (by decide) ?_
 intro u
 go_wp2_with fail
 refine HV.out.fill fillEdge_nil H.out.book (by decide) ?_
 intro u
 go_wp2_with fail
 refine (fillLevel_any (H.out.book.cell (j:=21) (by omega) (by omega)) H.out.held H.out.lists (fun hk => H.out.tI hk |>.ne H.out.tB (by decide) rfl) (fun k hk hk2 => (H.out.tH hk).ne (H.out.tI hk2) (by decide) rfl) HPW.out HNN.out).mono ?_
 rintro e w2 ⟨⟨u,rfl⟩,lI2,O2⟩
 have HP2:=Lib.hid (fun W (hW:Only (fun k => B ≤ k) w2 W) => HPW.out W ((O2.mono fun j _ hj => (H.out.lists.lt j hj).1).trans hW))
 have hB2:=H.out.book.only O2 (fun hk => H.out.tI hk |>.ne H.out.tB (by decide) rfl)
 have hI2:=H.out.held.only (RH.same _ _) O2 (fun k hk hk2 => (H.out.tH hk).ne (H.out.tI hk2) (by decide) rfl)
 have H3:=Lib.hid (B1Level.mk hB2 H.out.only hI2 (lI2.cong fun i hi' => mark_cong hi') (Nat.le_trans H.out.base O2.size))
 have HO3:=Lib.hid (O2.mono fun k _ hk => show ownsLevel vs hs k from .inl hk)
 clear hB2 hI2 lI2 O2
 go_wp2_with fail
 refine HV.out.fill fillMask_nil H3.out.book (by decide) ?_
 intro u
 go_wp2_with fail
 refine HV.out.fill fillStep_nil H3.out.book (by decide) ?_
 intro u
 go_wp2_with fail
 refine HV.out.fill fillRanked_nil H3.out.book (by decide) ?_
 intro u
 go_wp2_with fail
 refine HV.out.fill fillAdorned_nil H3.out.book (by decide) ?_
 intro u
 go_wp2_with fail
 refine HV.out.fill fillTable_nil H3.out.book (by decide) ?_
 intro u
 go_wp2_with fail
 refine HV.out.fill fillProof_nil H3.out.book (by decide) ?_
 intro u
 go_wp2_with fail
 refine HV.out.fill fillSize_nil H3.out.book (by decide) ?_
 intro u
 go_wp2_with fail
 refine HV.out.fill fillFloat_nil H3.out.book (by decide) ?_
 intro u
 go_wp2_with fail
 refine HV.out.fill fillCommit_nil H3.out.book (by decide) ?_
 intro u
 go_wp2_with fail
 refine HV.out.fill fillEvent_nil H3.out.book (by decide) ?_
 intro u
 go_wp2_with fail
 refine (growAllLevel_any H3.out BI.out HP2.out HNN.out).mono ?_
 rintro e w4 ⟨⟨u,rfl⟩,hs',x1,x3,x4,x6,x8,x9⟩
 have HN4:=Lib.hid x9
 have HP4:=Lib.hid (fun W (hW:Fut w4 W) => HP2.out W ((x8.mono fun j _ hj => hj.elim (fun h => (H3.out.lists.lt j h).1) fun h => (H3.out.held.block j h).1).trans (Only.fut hW)))
 clear x9
 have HX:=Lib.hid (show BookAt 65 w4 b n vs∧SlRep 3 maxLen RH w4 (vs 21) hs'∧Looks 2 RLv markLevelP (fun i => (fi i).length) w4 hs' from ⟨x3,x4,x6⟩)
 have HO4:=Lib.hid (HO3.out.trans x8)
 have BI':=Lib.hid (fun i (h:i < hs'.length) => BI.out i (by rw [← x1];exact h))
 clear x1 x3 x4 x6 x8
 go_wp2_with fail
 refine (lookOneLevel_any HX.out.1 HV.out HX.out.2.1 HX.out.2.2 BI'.out HP4.out HN4.out).mono ?_
 rintro e w5 ⟨rfl,f5⟩
 have F5:=Lib.hid f5
 clear f5
 go_wp2_with fail
 refine (lookTwoLevel_any (HX.out.1.only (S:=fun _ => False) (Only.fut F5.out) (fun h => h)) HV.out (HX.out.2.1.fut RH.stays F5.out) (HX.out.2.2.fut RLv.stays F5.out) BI'.out (fun W hW => HP4.out W (F5.out.trans hW)) HN4.out).mono ?_
 rintro e w6 ⟨rfl,f6⟩
 have F6:=Lib.hid (F5.out.trans f6)
 clear f6
 go_wp2
 go_ret
 exact ⟨rfl,HO4.out.trans (Only.fut F6.out)⟩
theorem B1Level.new (h:BookAt 65 w b 0 (fun _ => .slice none 0 0)) (hB:B ≤ w.heap.size) (fi:Nat→List (ByteArray × Nat)):B1Level B w b 0 (fun _ => .slice none 0 0) [] fi :=
 ⟨h,fun _ _ => rfl,OwnL.nil,Lists.nil,hB⟩
theorem put_B1Level (h:B1Level B w b n vs hs fi) (hn:0 ≤ n∧n < 1000) (hl:hs.length < 1000) {A:Option Addr} {nl cl:Nat} {ys:List (ByteArray × Nat)} (hv:OwnL 2 B 126 RLv w (.slice A nl cl) ys) (hap:∀ k,(Value.slice A nl cl).ownBlock = some k→¬ ownsL hs k) :
    Calls Tryz.prog 20 #[.pointer (some ⟨b,0,none⟩),.slice A nl cl] w fun e w' => (∃ u,e = .returned u)∧∃ vs',B1Level B w' b (n + 1) vs' (hs ++ [⟨.slice A nl cl,.slice none 0 0,n + 1⟩]) (snocF fi hs.length ys) ∧
     Only (fun k => k = b∨(vs 21).ownBlock = some k) w w'∧∀ j x,(vs' j).ownBlock = some x→(vs j).ownBlock = some x∨w.heap.size ≤ x:=by
 have nHB:∀ k,(vs 21).ownBlock = some k→k ≠ b:=fun k hk e => (h.tH hk).ne h.tB (by decide) e
 refine (addLevels_any (Al:=A) (nl:=nl) (cl:=cl) h.book hn h.held (fun e => nHB b e rfl) h.base hl).mono ?_
 rintro e w' ⟨hu,v',hb,hH,hO,hv'⟩
 have n2:∀ k,ownsL hs k→¬ (k = b∨(vs 21).ownBlock = some k):=fun k hk hS => by
  rcases hS with rfl | hS
  ·exact (h.tI hk).ne h.tB (by decide) rfl
  ·exact (h.tI hk).ne (h.tH hS) (by decide) rfl
 have n4:∀ k,(Value.slice A nl cl).ownBlock = some k→¬ (k = b∨(vs 21).ownBlock = some k):=fun k hk hS => by
  have ht:Ty w 126 k:=hv.typed k hk
  rcases hS with rfl | hS
  ·exact ht.ne h.tB (by decide) rfl
  ·exact ht.ne (h.tH hS) (by decide) rfl
 refine ⟨hu,updV vs 21 v',⟨hb,fun j h1 => by rw [updV_ne h1];exact h.only j h1,by rw [updV_self];exact hH,
  (h.lists.only (RLv.same _ _) hO n2).snoc (h:=⟨.slice A nl cl,.slice none 0 0,n + 1⟩) (hv.only (RLv.same _ _) hO n4) hap,Nat.le_trans h.base hO.size⟩,hO,fun j x hx => ?_⟩
 by_cases hj:j = 21
 ·subst hj;rw [updV_self] at hx;exact hv' x hx
 ·rw [updV_ne hj] at hx;exact .inl hx
end
structure BkLevel (B BN:Nat) (w0 w:World) (n:Int) (vs:Nat→Value) (hs:List Hd) (fi:Nat→List (ByteArray × Nat)):Prop where
 b1:B1Level B w BN n vs hs fi
 low:∀ j x,(vs j).ownBlock = some x→BN ≤ x
 on:Only (fun k => BN ≤ k) w0 w
theorem BkLevel.put {B BN:Nat} {w0 w:World} {n:Int} {vs:Nat→Value} {hs:List Hd} {fi:Nat→List (ByteArray × Nat)} (h:BkLevel B BN w0 w n vs hs fi) (hn:0 ≤ n∧n < 1000) (hl:hs.length < 1000) {A:Option Addr} {nl cl:Nat} {ys:List (ByteArray × Nat)} (hv:OwnL 2 B 126 RLv w0 (.slice A nl cl) ys) (hlt:∀ k,(Value.slice A nl cl).ownBlock = some k→k < BN) (hap:∀ k,(Value.slice A nl cl).ownBlock = some k→¬ ownsL hs k) :
    Calls Tryz.prog 20 #[.pointer (some ⟨BN,0,none⟩),.slice A nl cl] w fun e w' => (∃ u,e = .returned u)∧∃ vs',BkLevel B BN w0 w' (n + 1) vs' (hs ++ [⟨.slice A nl cl,.slice none 0 0,n + 1⟩]) (snocF fi hs.length ys):=by
 refine (put_B1Level h.b1 hn hl (hv.only (RLv.same _ _) h.on fun k hk hb => by have:=hlt k hk;omega) hap).mono ?_
 rintro e w' ⟨hu,vs',h1,h2,h3⟩
 have hbl:=h.b1.book.lt
 exact ⟨hu,vs',h1,fun j x hx => by
  rcases h3 j x hx with h4 | h4
  ·exact h.low j x h4
  ·omega,h.on.trans (h2.mono fun k _ hk => by
  rcases hk with rfl | hk
  ·exact Nat.le_refl _
  ·exact h.low 21 k hk)⟩
end Go.Proofs.YtobabnpllokkaaaGreatDoor
