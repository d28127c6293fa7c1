/- Parts. -/
import Derived.Test.YtobabnpllokkaaaGreatDoorM24
import Derived.Test.YtobabnpllokkaaaGreatDoorM06
import Derived.Test.YtobabnpllokkaaaGreatDoorM08
import Derived.Test.YtobabnpllokkaaaGreatDoorM14
import Derived.Test.YtobabnpllokkaaaGreatDoorM25
import Derived.Test.YtobabnpllokkaaaGreatDoorM12
import Derived.Test.YtobabnpllokkaaaGreatDoorM19
import Derived.Test.YtobabnpllokkaaaGreatDoorM04
import Derived.Test.YtobabnpllokkaaaGreatDoorM00
set_option linter.unusedSimpArgs false
set_option linter.unusedVariables false
namespace Go.Proofs.YtobabnpllokkaaaGreatDoor
open Go.RowKit Go.WideMaps
def markTextP (m:Int):ByteArray:=wordN m
theorem RNm.same:∀ (w w':World) cs (x:ByteArray),RNm w cs x→RNm w' cs x:=fun _ _ _ _ h => h
theorem atText_mark {w:World} {A:Option Addr} {n cap M N:Nat} {m:Int} (h:SlRep 1 M RNm w (.slice A n cap) (List.replicate N (markTextP m))) {k:Nat} (hk:k < N):∃ b off,A = some ⟨b,off,none⟩∧w.rangeAt b (off + k * 1) (#[.string (wordN m)]:Array Value).toList:=by
 obtain ⟨A1,cap1,hv,_,_,h3⟩:=h
 obtain ⟨b,off,cs,hA,hl,hc,hr⟩:=h3 k (markTextP m) (by rw [List.getElem?_replicate,if_pos hk])
 injection hv with hv _ _
 refine ⟨b,off,hv.trans hA,fun j c hj => ?_⟩
 obtain rfl:cs = _:=hr
 rw [Nat.add_assoc]
 exact hc j c hj
theorem markText_any (n:Int) (h0:0 ≤ n) (h1:n ≤ 1000000) (w:World) (hP:Pows w):Calls Tryz.prog 113 #[.int .i64 n] w fun e w' => e = .returned (.string (wordN n))∧Fut w w':=by
 have HW:=Lib.hid (wordN_any n h0 (by omega) w hP)
 generalize wordN n = y at HW
 go_enter Tryz.func113,Tryz.ntmps113
 go_wp2_with fail
 refine HW.out.mono ?_
 rintro e w1 ⟨rfl,f1⟩
 go_wp2
 go_ret
 exact ⟨rfl,f1⟩
theorem isText_any (n:Int) (h0:0 ≤ n) (h1:n ≤ 1000000) (w:World) (hP:Pows w):Calls Tryz.prog 225 #[.string (wordN n),.int .i64 n] w fun e w' => e = .returned (.bool true)∧Fut w w':=by
 have HW:=Lib.hid (wordN_any n h0 (by omega) w hP)
 generalize wordN n = y at HW
 go_enter Tryz.func225,Tryz.ntmps225
 go_wp2_with fail
 refine HW.out.mono ?_
 rintro e w1 ⟨rfl,f1⟩
 go_wp2
 go_ret
 exact ⟨by simp,f1⟩
set_option maxHeartbeats 1600000 in
set_option maxRecDepth 100000 in
theorem fillText_any {B:Nat} {w:World} {b:Nat} {v:Value} {hs:List Hd} {f:Nat→List ByteArray} (hc:w.cell? ⟨b,12,none⟩ = some v) (hH:OwnL 3 B 162 RH w v hs) (hL:Lists 1 B 9 RNm w hs f)
    (hb:¬ ownsL hs b) (hv:∀ k,v.ownBlock = some k→¬ ownsL hs k) (hPW:∀ W,Only (fun k => B ≤ k) w W→Pows W) (hNN:∀ (i:Nat) (h:Hd),hs[i]? = some h→0 ≤ h.n∧h.n ≤ 1000000) :
    Calls Tryz.prog 51 #[.pointer (some ⟨b,0,none⟩)] w fun e w' => (∃ u,e = .returned u)∧Lists 1 B 9 RNm w' hs (markF markTextP hs f)∧Only (ownsL hs) w w':=by
 have HPW:=Lib.hid hPW
 have HNN:=Lib.hid hNN
 clear hPW hNN
 have HH:=Lib.hid hH
 have HL:=Lib.hid hL
 have HV:=Lib.hid hv
 have hB0:b < w.heap.size:=lt_of_cell hc
 obtain ⟨A,cap,rfl,hcl,hcm⟩:=hH.rep.form
 have hml:hs.length ≤ 9223372036854775807:=Nat.le_trans hcl hcm
 have HLt:=Lib.hid HL.out.lt
 clear hH hL hv
 go_enter Tryz.func51,Tryz.ntmps51
 go_wp2_with fail
 go_loopw [2] (fun i wr => ∃ k:Nat,k ≤ hs.length∧i = .int .i64 k∧Hid (Lists 1 B 9 RNm wr hs (upTo k (markF markTextP hs f) f))∧Hid (Only (ownsL hs) w wr)) (fun i _ => hs.length - (intOf i).toNat)
 case atStart => exact ⟨0,Nat.zero_le _,rfl,Lib.hid (HL.out.cong fun i _ => (by unfold upTo;rw [if_neg (by omega)])),Lib.hid (Only.refl _)⟩
 case round =>
  obtain ⟨k,hk,rfl,hL,hO⟩:=hrel
  have cw:=hO.out.cell hc hb
  by_cases hlt:k < hs.length
  ·have hltI:(k:Int) < hs.length:=by omega
   have e1:(0:Int) ≤ k∧(k:Int) < hs.length:=by omega
   have e3:IntKind.i64.wrap ((k:Int) + 1) = ((k + 1:Nat):Int):=by rw [IntKind.wrap_i64];omega
   obtain ⟨gv,ov,l,long,m,rfl,hkk,d0,d1,d2,⟨A1,n1,c1,rfl⟩,A2,n2,c2,rfl⟩:=held_at ((HH.out.only (RH.same w wr) hO.out HV.out).rep) hlt
   have hmn:0 ≤ m∧m ≤ 1000000:=HNN.out k _ hkk
   have hE:=hL.out.each k _ hkk
   have hfk:upTo k (markF markTextP hs f) f k = f k:=by unfold upTo;rw [if_neg (by omega)]
   rw [hfk] at hE
   obtain ⟨_,_,hn1,hn1c,hn1m⟩:=hE.rep.form
   obtain rfl:n1 = (f k).length:=by injection hn1
   have hml1:(f k).length ≤ 9223372036854775807:=Nat.le_trans hn1c hn1m
   clear hn1
   have HE:=Lib.hid hE
   clear hE
   go_wp2_with fail
   have h3:=heap_alloc_new wr (.cells #[.slice A1 (f k).length c1,.slice A2 n2 c2,.int .i64 m] 162)
   have F1:=Fut.alloc wr (.cells #[.slice A1 (f k).length c1,.slice A2 n2 c2,.int .i64 m] 162)
   obtain ⟨w1,hw1⟩:∃ W,wr.alloc (.cells #[.slice A1 (f k).length c1,.slice A2 n2 c2,.int .i64 m] 162) = W:=⟨_,rfl⟩
   rw [hw1] at h3 F1 ⊢
   clear hw1
   have HE1:=Lib.hid (HE.out.fut (fun _ _ _ _ _ h => h) F1)
   have hbl:=HE.out.block
   have F1':=Lib.hid F1
   clear F1
   go_loopw [4] (fun i wq => ∃ q:Nat,q ≤ (f k).length∧i = .int .i64 q∧Hid (OwnL 1 B 9 RNm wq (.slice A1 (f k).length c1) (List.replicate q (markTextP m) ++ (f k).drop q))∧Hid (Only (fun j => (Value.slice A1 (f k).length c1).ownBlock = some j) w1 wq)) (fun i _ => (f k).length - (intOf i).toNat)
   case atStart => exact ⟨0,Nat.zero_le _,rfl,HE1,Lib.hid (Only.refl _)⟩
   case round =>
    obtain ⟨q,hq,rfl,hE2,hO2⟩:=hrel
    have b3:=hO2.out.keeps h3 (fun h => by have:=(hbl _ h).2;omega)
    have t0:=cell_at b3 0 (.slice A1 (f k).length c1) rfl
    have t2:=cell_at b3 2 (.int .i64 m) rfl
    by_cases hql:q < (f k).length
    ·have hqI:(q:Int) < (f k).length:=by omega
     have e2:(0:Int) ≤ q∧(q:Int) < (f k).length:=by omega
     have e4:IntKind.i64.wrap ((q:Int) + 1) = ((q + 1:Nat):Int):=by rw [IntKind.wrap_i64];omega
     have hll:(List.replicate q (markTextP m) ++ (f k).drop q).length = (f k).length:=by rw [List.length_append,List.length_replicate,List.length_drop];omega
     obtain ⟨g,arr,rfl,hlx,hg,hsz⟩:=hE2.out.arr (q:=q) (by rw [hll];exact hql)
     clear hlx hll
     have HPq:=Lib.hid (fun W (hW:Fut wr W) => HPW.out W (((hO.out.mono fun j _ hs' => (HLt.out j hs').1).trans (Only.fut F1'.out)).trans ((hO2.out.mono fun j _ hj => (hbl j hj).1).trans (Only.fut hW))))
     go_wp2_with fail
     refine wp_graph 6 [.d,.d,.d,.d,.d,.d] (by kernel_rfl) (by kernel_rfl) (by kernel_rfl) ?_
     simp only [takS,Exs]
     iterate 6 apply Exists.intro
     apply Run.valG (wanted_none rfl _)
     ·intro w1 h1 hk
      go_simp;rfl
     simp only [actS]
     apply Run.valG (wanted_none rfl _)
     ·intro w1 h1 hk
      have q0:=h1.cell t0;have q2:=h1.cell t2
      have hcw:=fun b o => Below.cell (p:=⟨b,o,none⟩) h1
      go_simp;rfl
     simp only [actS]
     iterate 2
      apply Run.valG (wanted_none rfl _)
      ·intro w1 h1 hk
       go_simp;rfl
      simp only [actS]
     apply Run.valG (wanted_none rfl _)
     ·intro w1 h1 hk
      have q0:=h1.cell t0;have q2:=h1.cell t2
      have hcw:=fun b o => Below.cell (p:=⟨b,o,none⟩) h1
      go_simp;rfl
     simp only [actS]
     apply Run.call (wanted_none rfl _) (fun _ _ => by go_simp;exact ⟨rfl,rfl⟩)
     ·intro w1 h1 hk
      have q0:=h1.cell t0;have q2:=h1.cell t2
      refine (markText_any m hmn.1 hmn.2 _ (HPq.out _ ((Fut.drew _).trans h1))).mono ?_;rintro e w' ⟨rfl,hf⟩;exact ⟨rfl,hf⟩
     simp only [actS]
     apply Run.done
     intro w2 h2 hk
     clear hk
     have F2:=(Fut.drew _).trans h2
     have hg2:=F2.block hg
     have x2:=cell_at hg2 q arr[q] (by simp)
     have z2:=free_at hg2 q
     go_wp2
     have OS:Only (fun j => j = g) w2 (w2.setCell ⟨g,q,none⟩ (.string (wordN m))):=Only.set _ _ rfl
     have hW:=(hE2.out.fut RNm.stays F2).write hg2 (set_blk hg2 (i:=q) (v:=.string (wordN m))) (k:=q) (by rw [List.length_append,List.length_replicate,List.length_drop];omega) (cs:=[.string (wordN m)]) (y:=markTextP m) (set1_spec (by omega)) rfl rfl (fun cs x h => h)
     rw [mark_set hql] at hW
     go_roundw
     case rel => exact ⟨q + 1,by omega,by go_num,Lib.hid hW,Lib.hid (hO2.out.trans ((Only.fut F2).trans (OS.mono fun j _ hj => by have hj':j = g:=hj;rw [hj'];rfl)))⟩
     case measure => simp [intOf] <;> omega
    ·obtain rfl:q = (f k).length:=by omega
     have hE3:=hE2.out
     rw [List.drop_length,List.append_nil] at hE3
     have hf:=(Only.fut F1'.out).trans hO2.out
     have HE3:=Lib.hid hE3
     have HF:=Lib.hid hf
     clear hE3 hf hE2 hO2
     go_wp2
     go_roundw
     case rel => exact ⟨k + 1,by omega,by go_num,Lib.hid (hL.out.step (RNm.same _ _) hkk HF.out HE3.out (markF_at hkk)),Lib.hid (hO.out.trans (HF.out.mono fun j _ hj => ⟨k,_,hkk,hj⟩))⟩
     case measure => simp [intOf] <;> omega
  ·obtain rfl:k = hs.length:=by omega
   go_wp2
   go_end0
   exact ⟨⟨_,rfl⟩,hL.out.cong fun i hi => (by unfold upTo;rw [if_pos hi]),hO.out⟩
set_option maxHeartbeats 1600000 in
set_option maxRecDepth 100000 in
theorem growText_any {B:Nat} {w:World} {b:Nat} {v:Value} {hs:List Hd} {ns:Nat→Nat} (hc:w.cell? ⟨b,12,none⟩ = some v) (hH:OwnL 3 B 162 RH w v hs) (hL:Lists 1 B 9 RNm w hs (fun i => List.replicate (ns i) (markTextP ((hs.getD i ⟨.slice none 0 0,.slice none 0 0,0⟩).n))))
    (hb:¬ ownsL hs b) (hvb:v.ownBlock ≠ some b) (hv:∀ k,v.ownBlock = some k→¬ ownsL hs k) (hB:B ≤ w.heap.size) (hns:∀ i,i < hs.length→ns i + 70 ≤ 8796093022207) (hPW:∀ W,Only (fun k => B ≤ k) w W→Pows W) (hNN:∀ (i:Nat) (h:Hd),hs[i]? = some h→0 ≤ h.n∧h.n ≤ 1000000) :
    Calls Tryz.prog 144 #[.pointer (some ⟨b,0,none⟩)] w fun e w' => (∃ u,e = .returned u)∧∃ hs',Grow 1 B 9 162 RNm markTextP w v hs ns hs.length w' hs':=by
 have HPW:=Lib.hid hPW
 have HNN:=Lib.hid hNN
 clear hPW hNN
 have hlow:∀ x,ownsL hs x→x < w.heap.size:=fun x hx => (hL.lt x hx).2
 have hvw:∀ x,v.ownBlock = some x→x < w.heap.size∧¬ ownsL hs x:=fun x hx => ⟨(hH.block x hx).2,hv x hx⟩
 have G0:Grow 1 B 9 162 RNm markTextP w v hs ns 0 w hs:=⟨hH,rfl,fun _ _ => rfl,fun i h hi => absurd hi (by omega),fun i h _ hi => (by
  have h1:=hL.each i h hi
  have h2:hs.getD i ⟨.slice none 0 0,.slice none 0 0,0⟩ = h:=by rw [List.getD_eq_getElem?_getD,hi];rfl
  simp only [h2] at h1
  exact h1),Only.refl _⟩
 have HLt:=Lib.hid hL.lt
 have HVt:=Lib.hid hH.block
 have HG0:=Lib.hid G0
 have HA:=Lib.hid hL.apart
 have HLO:=Lib.hid hlow
 have HV:=Lib.hid hvw
 have HNS:=Lib.hid hns
 have hB0:b < w.heap.size:=lt_of_cell hc
 have hcb:¬ (ownsL hs b∨v.ownBlock = some b):=fun h => h.elim hb hvb
 obtain ⟨A,cap,rfl,hcl,hcm⟩:=hH.rep.form
 have hml:hs.length ≤ 9223372036854775807:=Nat.le_trans hcl hcm
 clear hH hL hv hlow hvw G0 hns
 go_enter Tryz.func144,Tryz.ntmps144
 go_wp2_with fail
 go_loopw [2] (fun i wr => ∃ k:Nat,k ≤ hs.length∧i = .int .i64 k∧Hid (∃ hs',Grow 1 B 9 162 RNm markTextP w (.slice A hs.length cap) hs ns k wr hs')) (fun i _ => hs.length - (intOf i).toNat)
 case atStart => exact ⟨0,Nat.zero_le _,rfl,Lib.hid ⟨_,HG0.out⟩⟩
 case round =>
  obtain ⟨k,hk,rfl,hG⟩:=hrel
  obtain ⟨hs',hG⟩:=hG.out
  have cw:=hG.only.cell hc hcb
  have hws:=hG.only.size
  by_cases hlt:k < hs.length
  ·have hltI:(k:Int) < hs.length:=by omega
   have e1:(0:Int) ≤ k∧(k:Int) < hs.length:=by omega
   have e3:IntKind.i64.wrap ((k:Int) + 1) = ((k + 1:Nat):Int):=by rw [IntKind.wrap_i64];omega
   obtain ⟨gv,ov,l,long,m,rfl,hkk,d0,d1,d2,⟨A1,n1,c1,rfl⟩,A2,n2,c2,rfl⟩:=held_at hG.held.rep (k:=k) (by rw [hG.len];exact hlt)
   have hkk':=hkk
   rw [hG.rest k (Nat.le_refl _)] at hkk
   have hmn:0 ≤ m∧m ≤ 1000000:=HNN.out k _ hkk
   have hE:=hG.todo k _ (Nat.le_refl _) hkk
   obtain ⟨Aq,cq,hn1,hn1c,hn1m⟩:=hE.rep.form
   rw [List.length_replicate] at hn1 hn1c
   obtain rfl:n1 = ns k:=by injection hn1
   clear hn1
   have hnk:=HNS.out k hlt
   have hat0:=hE.at0
   obtain ⟨gv',arrv,hgv',hlx,hgv,hszv⟩:=hG.held.arr (q:=k) (by rw [hG.len];exact hlt)
   injection hgv' with hgv'
   injection hgv' with q1 q2
   subst q1 q2
   rw [Nat.zero_add] at d0 d1 d2
   have HE:=Lib.hid hE
   have HG:=Lib.hid hG
   clear hE hG hlx
   go_wp2_with fail
   have h3:=heap_alloc_new wr (.cells #[.slice A1 (ns k) c1,.slice A2 n2 c2,.int .i64 m] 162)
   have F1:=Fut.alloc wr (.cells #[.slice A1 (ns k) c1,.slice A2 n2 c2,.int .i64 m] 162)
   obtain ⟨w1,hw1⟩:∃ W,wr.alloc (.cells #[.slice A1 (ns k) c1,.slice A2 n2 c2,.int .i64 m] 162) = W:=⟨_,rfl⟩
   rw [hw1] at h3 F1 ⊢
   clear hw1
   have HE1:=Lib.hid (HE.out.fut RNm.stays F1)
   have hbl:=HE.out.block
   have hs1:=F1.size
   have F1':=Lib.hid F1
   have HL1:=Lib.hid (HE1.out.rep)
   clear F1
   go_loopw [4,5] (fun L i wq => ∃ q:Nat,q ≤ 70∧i = .int .i64 q∧Hid (OwnL 1 B 9 RNm wq L (List.replicate (ns k + q) (markTextP m)))∧Hid (SlRep 1 maxLen RNm wq (.slice A1 (ns k) c1) (List.replicate (ns k) (markTextP m)))∧Hid (∀ x,L.ownBlock = some x→(Value.slice A1 (ns k) c1).ownBlock = some x∨w1.heap.size ≤ x)∧Hid (Only (fun j => (Value.slice A1 (ns k) c1).ownBlock = some j) w1 wq)) (fun _ i _ => 70 - (intOf i).toNat)
   case atStart => exact ⟨0,Nat.zero_le _,rfl,HE1,HL1,Lib.hid (fun x hx => .inl hx),Lib.hid (Only.refl _)⟩
   case round =>
    obtain ⟨q,hq,rfl,hL2,hS2,hB2,hO2⟩:=hrel
    have b3:=hO2.out.keeps h3 (fun h => by have:=(hbl _ h).2;omega)
    have t2:=cell_at b3 2 (.int .i64 m) rfl
    have hs2:=hO2.out.size
    by_cases hql:q < 70
    ·have hqI:(q:Int) < 70:=by omega
     have e4:IntKind.i64.wrap ((q:Int) + 1) = ((q + 1:Nat):Int):=by rw [IntKind.wrap_i64];omega
     have HPq:=Lib.hid (fun W (hW:Fut wr W) => HPW.out W (((HG.out.only.mono fun j _ hj => hj.elim (fun h => (HLt.out j h).1) (fun h => (HVt.out j h).1)).trans (Only.fut F1'.out)).trans ((hO2.out.mono fun j _ hj => (hbl j hj).1).trans (Only.fut hW))))
     go_wp2_with fail
     refine (markText_any m hmn.1 hmn.2 _ (HPq.out _ (Fut.refl _))).mono ?_
     rintro e wm ⟨rfl,hfm⟩
     have hOa:=hL2.out.fut RNm.stays (hfm.trans (Fut.alloc wm (.cells #[.string (wordN m)] 9)))
     have hba:=heap_alloc_new wm (.cells #[.string (wordN m)] 9)
     have hza:(wm.alloc (.cells #[.string (wordN m)] 9)).heap.size = wm.heap.size + 1:=by simp
     have HZa:=Lib.hid hza
     have hsm:=hfm.size
     have hbs:B ≤ (wm.alloc (.cells #[.string (wordN m)] 9)).heap.size:=by omega
     have FA:=Lib.hid (hfm.trans (Fut.alloc wm (.cells #[.string (wordN m)] 9)))
     clear hza
     go_wp2_with (first | (refine wpList_append1 (P:=Tryz.prog) (e:=9) (e':=9) (cs:=(#[.string (wordN m)]:Array Value).toList) (y:=markTextP m) (wanted_none rfl _) _ _ rfl Tryz.underlying76 infoNm rfl (by omega) RNm.one (fun _ cs x h _ => RNm.same _ _ cs x h) rfl rfl hOa hba rfl rfl (by rw [List.length_replicate];unfold maxLen;omega) (by rw [List.length_replicate];omega) hbs ?_;intro v8 w8 hO8 hG8 hB8))
     have hre:List.replicate (ns k + q) (markTextP m) ++ [markTextP m] = List.replicate (ns k + (q + 1)) (markTextP m):=by rw [show ns k + (q + 1) = (ns k + q) + 1 by omega,List.replicate_succ']
     have hkp:=append_keep (RNm.same _ _) (hS2.out.fut RNm.stays FA.out) hat0 (by rw [List.take_replicate,Nat.min_eq_left (by omega)]) (by rw [List.length_replicate];omega) hG8 hO8 hB8
     rw [hre] at hO8
     have hO9:=(hO2.out.trans (Only.fut FA.out)).then (Only.grown (S:=fun j => u4.ownBlock = some j) hG8 fun j hj => hj) (fun j hj hlt => (hB2.out j hj).elim id fun h => absurd hlt (by omega))
     go_roundw
     case rel => exact ⟨q + 1,by omega,by go_num,Lib.hid hO8,Lib.hid hkp,Lib.hid (fun x hx => by
      rcases hB8 with h8 | ⟨h8,_⟩
      ·exact hB2.out x (h8 ▸ hx)
      ·rw [h8] at hx
       have:=HZa.out
       injection hx with hx
       exact .inr (by omega)),Lib.hid hO9⟩
     case measure => simp [intOf] <;> omega
    ·obtain rfl:q = 70:=by omega
     obtain ⟨A4,c4,hu4,h4c,h4m⟩:=hL2.out.rep.form
     rw [List.length_replicate] at hu4 h4c
     subst hu4
     have hf:=(Only.fut F1'.out).trans hO2.out
     have hgvl:gv < w.heap.size∧¬ ownsL hs gv:=HV.out gv rfl
     have hngv:¬ (Value.slice A1 (ns k) c1).ownBlock = some gv:=fun h => hgvl.2 ⟨k,_,hkk,h⟩
     have bgv:=hf.keeps hgv hngv
     have cwb:=hf.cell cw (fun h => hb ⟨k,_,hkk,h⟩)
     have a0:=arr_of_cell hgv d0
     have a2:=arr_of_cell hgv d2
     have x1:wr.cell? ⟨gv,k * 3 + 1,none⟩ = some (.slice A2 n2 c2):=hf.cell d1 hngv
     have z1:=free_at bgv (k * 3 + 1)
     have hh:=(HG.out.held.only (RH.same _ _) hf fun x hx hx2 => (HV.out x hx).2 ⟨k,_,hkk,hx2⟩).write bgv (set_blk bgv (i:=k * 3 + 1) (v:=.slice A4 (ns k + 70) c4)) (k:=k) (by rw [HG.out.len];exact hlt) (cs:=Hd.cells ⟨.slice A1 (ns k) c1,.slice A4 (ns k + 70) c4,m⟩) (y:=⟨.slice A1 (ns k) c1,.slice A4 (ns k + 70) c4,m⟩) (set_held a0 a2) rfl ⟨rfl,⟨_,_,_,rfl⟩,_,_,_,rfl⟩ (RH.same _ _)
     have OS:Only (fun j => (Value.slice (some ⟨gv,0,none⟩) hs.length cap).ownBlock = some j) wr (wr.setCell ⟨gv,k * 3 + 1,none⟩ (.slice A4 (ns k + 70) c4)):=Only.set _ _ rfl
     have HST:=Lib.hid (HG.out.step (RNm.same _ _) (RNm.same _ _) HA.out HLO.out HV.out hkk hf hS2.out hL2.out.rep (fun x hx => (hB2.out x hx).imp id fun h => Nat.le_trans hs1 h) OS hh)
     clear hh hf
     go_wp2
     go_roundw
     case rel => exact ⟨k + 1,by omega,by go_num,Lib.hid ⟨_,HST.out⟩⟩
     case measure => simp [intOf] <;> omega
  ·obtain rfl:k = hs.length:=by omega
   have HG:=Lib.hid hG
   clear hG
   go_wp2
   go_end0
   exact ⟨⟨_,rfl⟩,_,HG.out⟩
set_option maxHeartbeats 1600000 in
set_option maxRecDepth 100000 in
theorem lookText_any {M:Nat} {w:World} {b:Nat} {v:Value} {hs:List Hd} {ns:Nat→Nat} (hc:w.cell? ⟨b,12,none⟩ = some v) (hH:SlRep 3 maxLen RH w v hs)
    (hl:∀ (i:Nat) (h:Hd),hs[i]? = some h→SlRep 1 maxLen RNm w h.l (List.replicate (ns i) (markTextP h.n))∧SlRep 1 maxLen RNm w h.long (List.replicate (ns i + 70) (markTextP h.n))) (hns:∀ i,i < hs.length→ns i + 70 ≤ 8796093022207) (hPW:∀ W,Fut w W→Pows W) (hNN:∀ (i:Nat) (h:Hd),hs[i]? = some h→0 ≤ h.n∧h.n ≤ 1000000) :
    Calls Tryz.prog 175 #[.pointer (some ⟨b,0,none⟩)] w fun e w' => e = .returned (.bool true)∧Fut w w':=by
 have HPW:=Lib.hid hPW
 have HNN:=Lib.hid hNN
 clear hPW hNN
 have HH:=Lib.hid hH
 have HL:=Lib.hid hl
 have HNS:=Lib.hid hns
 obtain ⟨A,cap,rfl,hcl,hcm⟩:=hH.form
 have hml:hs.length ≤ 9223372036854775807:=Nat.le_trans hcl hcm
 clear hH hl hns
 go_enter Tryz.func175,Tryz.ntmps175
 go_wp2_with fail
 go_loopw [3] (fun i wr => ∃ k:Nat,k ≤ hs.length∧i = .int .i64 k∧Hid (Fut w wr)) (fun i _ => hs.length - (intOf i).toNat)
 case atStart => exact ⟨0,Nat.zero_le _,rfl,Lib.hid (Fut.refl _)⟩
 case round =>
  obtain ⟨k,hk,rfl,hG⟩:=hrel
  have cw:=hG.out.cell hc
  by_cases hlt:k < hs.length
  ·have hltI:(k:Int) < hs.length:=by omega
   have e1:(0:Int) ≤ k∧(k:Int) < hs.length:=by omega
   have e3:IntKind.i64.wrap ((k:Int) + 1) = ((k + 1:Nat):Int):=by rw [IntKind.wrap_i64];omega
   obtain ⟨gv,ov,l,long,m,rfl,hkk,d0,d1,d2,⟨A1,n1,c1,rfl⟩,A2,n2,c2,rfl⟩:=held_at (HH.out.fut RH.stays hG.out) hlt
   have hmn:0 ≤ m∧m ≤ 1000000:=HNN.out k _ hkk
   obtain ⟨hl1,hl2⟩:=HL.out k _ hkk
   have hnk:=HNS.out k hlt
   obtain ⟨Aq,cq,hn1,_⟩:=hl1.form
   obtain ⟨Ar,cr,hn2,_⟩:=hl2.form
   rw [List.length_replicate] at hn1 hn2
   obtain rfl:n1 = ns k:=by injection hn1
   obtain rfl:n2 = ns k + 70:=by injection hn2
   have e5:IntKind.i64.wrap ((ns k:Int) + 70) = (ns k:Int) + 70:=by rw [IntKind.wrap_i64];omega
   have HL1:=Lib.hid (hl1.fut RNm.stays hG.out)
   have HL2:=Lib.hid (hl2.fut RNm.stays hG.out)
   clear hn1 hn2 hl1 hl2
   go_wp2_with fail
   have h3:=heap_alloc_new wr (.cells #[.slice A1 (ns k) c1,.slice A2 (ns k + 70) c2,.int .i64 m] 162)
   have F1:=Fut.alloc wr (.cells #[.slice A1 (ns k) c1,.slice A2 (ns k + 70) c2,.int .i64 m] 162)
   obtain ⟨w1,hw1⟩:∃ W,wr.alloc (.cells #[.slice A1 (ns k) c1,.slice A2 (ns k + 70) c2,.int .i64 m] 162) = W:=⟨_,rfl⟩
   rw [hw1] at h3 F1 ⊢
   clear hw1
   have F1':=Lib.hid F1
   clear F1
   go_loopw [5] (fun i wq => ∃ q:Nat,q ≤ ns k + 70∧i = .int .i64 q∧Hid (Fut w1 wq)) (fun i _ => ns k + 70 - (intOf i).toNat)
   case atStart => exact ⟨0,Nat.zero_le _,rfl,Lib.hid (Fut.refl _)⟩
   case round =>
    obtain ⟨q,hq,rfl,hG2⟩:=hrel
    have b3:=hG2.out.block h3
    have t0:=cell_at b3 0 (.slice A1 (ns k) c1) rfl
    have t1:=cell_at b3 1 (.slice A2 (ns k + 70) c2) rfl
    have t2:=cell_at b3 2 (.int .i64 m) rfl
    have HPq:=Lib.hid (fun W (hW:Fut wr W) => HPW.out W (hG.out.trans (F1'.out.trans (hG2.out.trans hW))))
    by_cases hql:q < ns k + 70
    ·have hqI:(q:Int) < (ns k:Int) + 70:=by omega
     have e2:(0:Int) ≤ q∧(q:Int) < (ns k:Int) + 70:=by omega
     have e4:IntKind.i64.wrap ((q:Int) + 1) = ((q + 1:Nat):Int):=by rw [IntKind.wrap_i64];omega
     obtain ⟨gl,ol,rfl,rl⟩:=atText_mark (HL2.out.fut RNm.stays (F1'.out.trans hG2.out)) (k:=q) hql
     by_cases hqs:q < ns k
     ·have hqsI:(q:Int) < (ns k:Int):=by omega
      have e6:(0:Int) ≤ q∧(q:Int) < (ns k:Int):=by omega
      obtain ⟨gs,os,rfl,rs⟩:=atText_mark (HL1.out.fut RNm.stays (F1'.out.trans hG2.out)) (k:=q) hqs
      go_wp2_with fail
      refine wp_graph 27 [.d,.d,.d,.d,.d,.d,.d,.d,.d,.d,.d,.d,.d,.d,.d,.d,.d,.d,.d,.d,.d,.d,.d,.d,.d,.d,.d] (by kernel_rfl) (by kernel_rfl) (by kernel_rfl) ?_
      simp only [takS,Exs]
      iterate 27 apply Exists.intro
      apply Run.valG (wanted_none rfl _)
      ·intro w1 h1 hk
       go_simp;rfl
      simp only [actS]
      apply Run.valG (wanted_none rfl _)
      ·intro w1 h1 hk
       have q0:=h1.cell t0;have q1:=h1.cell t1;have q2:=h1.cell t2;have hg:=(Fut.drew _).trans h1
       have hcw:=fun b o => Below.cell (p:=⟨b,o,none⟩) h1
       go_simp;rfl
      simp only [actS]
      iterate 2
       apply Run.valG (wanted_none rfl _)
       ·intro w1 h1 hk
        go_simp;rfl
       simp only [actS]
      apply Run.valG (wanted_none rfl _)
      ·intro w1 h1 hk
       have q0:=h1.cell t0;have q1:=h1.cell t1;have q2:=h1.cell t2;have hg:=(Fut.drew _).trans h1
       have hcw:=fun b o => Below.cell (p:=⟨b,o,none⟩) h1
       (have q9:=rangeAt_fut rl hg 0 _ rfl;rw [Nat.mul_one,Nat.add_zero] at q9;go_simp;rfl)
      simp only [actS]
      apply Run.valG (wanted_none rfl _)
      ·intro w1 h1 hk
       go_simp;rfl
      simp only [actS]
      apply Run.valG (wanted_none rfl _)
      ·intro w1 h1 hk
       have q0:=h1.cell t0;have q1:=h1.cell t1;have q2:=h1.cell t2;have hg:=(Fut.drew _).trans h1
       have hcw:=fun b o => Below.cell (p:=⟨b,o,none⟩) h1
       go_simp;rfl
      simp only [actS]
      apply Run.call (wanted_none rfl _) (fun _ _ => by go_simp;exact ⟨rfl,rfl⟩)
      ·intro w1 h1 hk
       have q0:=h1.cell t0;have q1:=h1.cell t1;have q2:=h1.cell t2;have hg:=(Fut.drew _).trans h1
       refine (isText_any m hmn.1 hmn.2 _ (HPq.out _ hg)).mono ?_;rintro e w' ⟨rfl,hf⟩;exact ⟨rfl,hf⟩
      simp only [actS]
      iterate 2
       apply Run.valG (wanted_none rfl _)
       ·intro w1 h1 hk
        go_simp;rfl
       simp only [actS]
      iterate 2
       apply Run.valG (by go_simp)
       ·intro w1 h1 hk
        go_simp;rfl
       simp only [actS]
      iterate 2
       apply Run.valG (by go_simp)
       ·intro w1 h1 hk
        have q0:=h1.cell t0;have q1:=h1.cell t1;have q2:=h1.cell t2;have hg:=(Fut.drew _).trans h1
        have hcw:=fun b o => Below.cell (p:=⟨b,o,none⟩) h1
        go_simp;rfl
       simp only [actS]
      iterate 3
       apply Run.valG (by go_simp)
       ·intro w1 h1 hk
        go_simp;rfl
       simp only [actS]
      apply Run.valG (by go_simp)
      ·intro w1 h1 hk
       have q0:=h1.cell t0;have q1:=h1.cell t1;have q2:=h1.cell t2;have hg:=(Fut.drew _).trans h1
       have hcw:=fun b o => Below.cell (p:=⟨b,o,none⟩) h1
       go_simp;rfl
      simp only [actS]
      iterate 2
       apply Run.valG (by go_simp)
       ·intro w1 h1 hk
        go_simp;rfl
       simp only [actS]
      apply Run.valG (by go_simp)
      ·intro w1 h1 hk
       have q0:=h1.cell t0;have q1:=h1.cell t1;have q2:=h1.cell t2;have hg:=(Fut.drew _).trans h1
       have hcw:=fun b o => Below.cell (p:=⟨b,o,none⟩) h1
       (have q9:=rangeAt_fut rs hg 0 _ rfl;rw [Nat.mul_one,Nat.add_zero] at q9;go_simp;rfl)
      simp only [actS]
      apply Run.valG (by go_simp)
      ·intro w1 h1 hk
       go_simp;rfl
      simp only [actS]
      apply Run.valG (by go_simp)
      ·intro w1 h1 hk
       have q0:=h1.cell t0;have q1:=h1.cell t1;have q2:=h1.cell t2;have hg:=(Fut.drew _).trans h1
       have hcw:=fun b o => Below.cell (p:=⟨b,o,none⟩) h1
       go_simp;rfl
      simp only [actS]
      apply Run.call (by go_simp) (fun _ _ => by go_simp;exact ⟨rfl,rfl⟩)
      ·intro w1 h1 hk
       have q0:=h1.cell t0;have q1:=h1.cell t1;have q2:=h1.cell t2;have hg:=(Fut.drew _).trans h1
       refine (isText_any m hmn.1 hmn.2 _ (HPq.out _ hg)).mono ?_;rintro e w' ⟨rfl,hf⟩;exact ⟨rfl,hf⟩
      simp only [actS]
      iterate 2
       apply Run.valG (by go_simp)
       ·intro w1 h1 hk
        go_simp;rfl
       simp only [actS]
      apply Run.valG (wanted_none rfl _)
      ·intro w1 h1 hk
       go_simp;rfl
      simp only [actS]
      apply Run.done
      intro w2 h2 hk
      clear hk
      go_wp2
      go_roundw
      case rel => exact ⟨q + 1,by omega,by go_num,Lib.hid (hG2.out.trans ((Fut.drew _).trans h2))⟩
      case measure => simp [intOf] <;> omega
     ·have hqsI:¬ (q:Int) < (ns k:Int):=by omega
      go_wp2_with fail
      refine wp_graph 27 [.d,.d,.d,.d,.d,.d,.d,.d,.d,.d,.d,.d,.d,.d,.d,.d,.d,.d,.d,.d,.d,.d,.d,.d,.d,.d,.d] (by kernel_rfl) (by kernel_rfl) (by kernel_rfl) ?_
      simp only [takS,Exs]
      iterate 27 apply Exists.intro
      apply Run.valG (wanted_none rfl _)
      ·intro w1 h1 hk
       go_simp;rfl
      simp only [actS]
      apply Run.valG (wanted_none rfl _)
      ·intro w1 h1 hk
       have q0:=h1.cell t0;have q1:=h1.cell t1;have q2:=h1.cell t2;have hg:=(Fut.drew _).trans h1
       have hcw:=fun b o => Below.cell (p:=⟨b,o,none⟩) h1
       go_simp;rfl
      simp only [actS]
      iterate 2
       apply Run.valG (wanted_none rfl _)
       ·intro w1 h1 hk
        go_simp;rfl
       simp only [actS]
      apply Run.valG (wanted_none rfl _)
      ·intro w1 h1 hk
       have q0:=h1.cell t0;have q1:=h1.cell t1;have q2:=h1.cell t2;have hg:=(Fut.drew _).trans h1
       have hcw:=fun b o => Below.cell (p:=⟨b,o,none⟩) h1
       (have q9:=rangeAt_fut rl hg 0 _ rfl;rw [Nat.mul_one,Nat.add_zero] at q9;go_simp;rfl)
      simp only [actS]
      apply Run.valG (wanted_none rfl _)
      ·intro w1 h1 hk
       go_simp;rfl
      simp only [actS]
      apply Run.valG (wanted_none rfl _)
      ·intro w1 h1 hk
       have q0:=h1.cell t0;have q1:=h1.cell t1;have q2:=h1.cell t2;have hg:=(Fut.drew _).trans h1
       have hcw:=fun b o => Below.cell (p:=⟨b,o,none⟩) h1
       go_simp;rfl
      simp only [actS]
      apply Run.call (wanted_none rfl _) (fun _ _ => by go_simp;exact ⟨rfl,rfl⟩)
      ·intro w1 h1 hk
       have q0:=h1.cell t0;have q1:=h1.cell t1;have q2:=h1.cell t2;have hg:=(Fut.drew _).trans h1
       refine (isText_any m hmn.1 hmn.2 _ (HPq.out _ hg)).mono ?_;rintro e w' ⟨rfl,hf⟩;exact ⟨rfl,hf⟩
      simp only [actS]
      iterate 2
       apply Run.valG (wanted_none rfl _)
       ·intro w1 h1 hk
        go_simp;rfl
       simp only [actS]
      iterate 2
       apply Run.valG (by go_simp)
       ·intro w1 h1 hk
        go_simp;rfl
       simp only [actS]
      iterate 2
       apply Run.valG (by go_simp)
       ·intro w1 h1 hk
        have q0:=h1.cell t0;have q1:=h1.cell t1;have q2:=h1.cell t2;have hg:=(Fut.drew _).trans h1
        have hcw:=fun b o => Below.cell (p:=⟨b,o,none⟩) h1
        go_simp;rfl
       simp only [actS]
      iterate 2
       apply Run.valG (by go_simp)
       ·intro w1 h1 hk
        go_simp;rfl
       simp only [actS]
      iterate 9
       apply Run.skip (by first | (go_simp;done) | (go_simp;exact fun h => nomatch h))
       simp only [actS]
      apply Run.valG (by go_simp)
      ·intro w1 h1 hk
       go_simp;rfl
      simp only [actS]
      apply Run.valG (wanted_none rfl _)
      ·intro w1 h1 hk
       go_simp;rfl
      simp only [actS]
      apply Run.done
      intro w2 h2 hk
      clear hk
      go_wp2
      go_roundw
      case rel => exact ⟨q + 1,by omega,by go_num,Lib.hid (hG2.out.trans ((Fut.drew _).trans h2))⟩
      case measure => simp [intOf] <;> omega
    ·obtain rfl:q = ns k + 70:=by omega
     go_wp2
     go_roundw
     case rel => exact ⟨k + 1,by omega,by go_num,Lib.hid (hG.out.trans (F1'.out.trans hG2.out))⟩
     case measure => simp [intOf] <;> omega
  ·obtain rfl:k = hs.length:=by omega
   go_wp2
   go_ret
   exact ⟨rfl,hG.out⟩
theorem infoHText:(Tryz.prog.info? 162).map (fun i => (i.zero,i.size,i.bytes)) = some (some (.agg #[.slice none 0 0,.slice none 0 0,.int .i64 0]),3,56):=by kernel_rfl
set_option maxHeartbeats 1600000 in
set_option maxRecDepth 100000 in
theorem keepText_any {B:Nat} {w:World} {b:Nat} {n:Int} {vs:Nat→Value} {hs:List Hd} {Al:Option Addr} {nl cl:Nat} (hb:BookAt 65 w b n vs) (hn:0 ≤ n∧n < 1000) (hH:OwnL 3 B 162 RH w (vs 12) hs) (hvb:(vs 12).ownBlock ≠ some b) (hB:B ≤ w.heap.size) (hl:hs.length < 1000) :
    Calls Tryz.prog 39 #[.pointer (some ⟨b,0,none⟩),.slice Al nl cl] w fun e w' => (∃ u,e = .returned u)∧∃ v',BookAt 65 w' b (n + 1) (updV vs 12 v')∧OwnL 3 B 162 RH w' v' (hs ++ [⟨.slice Al nl cl,.slice none 0 0,n + 1⟩]) ∧
     Only (fun k => k = b∨(vs 12).ownBlock = some k) w w'∧∀ x,v'.ownBlock = some x→(vs 12).ownBlock = some x∨w.heap.size ≤ x:=by
 have HB:=Lib.hid hb
 have HH:=Lib.hid hH
 have cn:=hb.num
 have zn:=hb.free 0
 have hbl:=hb.lt
 obtain ⟨A,cap,hv,hcl,hcm⟩:=hH.rep.form
 have hvb':∀ x,(vs 12).ownBlock = some x→x ≠ b∧x < w.heap.size:=fun x hx => ⟨fun e => hvb (e ▸ hx),(hH.block x hx).2⟩
 have HVB:=Lib.hid hvb'
 have e1:IntKind.i64.wrap (n + 1) = n + 1:=by rw [IntKind.wrap_i64];omega
 clear hb hH hvb hvb'
 go_enter Tryz.func39,Tryz.ntmps39
 go_wp2_with fail
 have O1:Only (fun k => k = b) w (w.setCell ⟨b,0,none⟩ (.int .i64 (n + 1))):=Only.set _ _ rfl
 have hB1:=HB.out.setN (m:=n + 1)
 obtain ⟨w1,hw1⟩:∃ W,w.setCell ⟨b,0,none⟩ (.int .i64 (n + 1)) = W:=⟨_,rfl⟩
 rw [hw1] at O1 hB1 ⊢
 clear hw1 cn zn
 have cv:w1.cell? ⟨b,12,none⟩ = some (.slice A hs.length cap):=by rw [← hv];exact hB1.cell (by omega) (by omega)
 have cn:=hB1.num
 have HB1:=Lib.hid hB1
 have s1:=O1.size
 have HH1:=Lib.hid (HH.out.only (RH.same _ _) O1 fun x hx e => (HVB.out x hx).1 e)
 clear hB1
 refine wp_graph0 12 [.d,.d,.d,.d,.d,.d,.d,.d,.d,.d,.d,.r (fun v w => ∃ g,v = .slice (some ⟨g,0,none⟩) 1 1∧w.heap[g]? = some (.cells #[.slice Al nl cl,.slice none 0 0,.int .i64 (n + 1)] 162 (0,0)))] (by kernel_rfl) (by kernel_rfl) (by kernel_rfl) (by decide) (by intro c v w a o ho h;obtain rfl:=Option.some.inj ho;exact h) (by kernel_rfl) ?_
 simp only [takS,Exs]
 iterate 11 apply Exists.intro
 iterate 2
  apply Run.valG (wanted_none rfl _)
  ·intro w1 h1 hk
   go_simp;rfl
  simp only [actS]
 apply Run.valG (wanted_none rfl _)
 ·intro w1 h1 hk
  have q0:=h1.cell cv;have q1:=h1.cell cn
  have hcw:=fun b o => Below.cell (p:=⟨b,o,none⟩) h1
  go_simp;rfl
 simp only [actS]
 apply Run.valG (wanted_none rfl _)
 ·intro w1 h1 hk
  go_simp;rfl
 simp only [actS]
 apply Run.valG (wanted_none rfl _)
 ·intro w1 h1 hk
  have q0:=h1.cell cv;have q1:=h1.cell cn
  have hcw:=fun b o => Below.cell (p:=⟨b,o,none⟩) h1
  go_simp;rfl
 simp only [actS]
 iterate 2
  apply Run.valG (wanted_none rfl _)
  ·intro w1 h1 hk
   go_simp;rfl
  simp only [actS]
 apply Run.valG (wanted_none rfl _)
 ·intro w1 h1 hk
  have q0:=h1.cell cv;have q1:=h1.cell cn
  have hcw:=fun b o => Below.cell (p:=⟨b,o,none⟩) h1
  go_simp;rfl
 simp only [actS]
 apply Run.valG (wanted_none rfl _)
 ·intro w1 h1 hk
  go_simp;rfl
 simp only [actS]
 iterate 2
  apply Run.valG (wanted_none rfl _)
  ·intro w1 h1 hk
   have q0:=h1.cell cv;have q1:=h1.cell cn
   have hcw:=fun b o => Below.cell (p:=⟨b,o,none⟩) h1
   go_simp;rfl
  simp only [actS]
 apply Run.valR (wanted_none rfl _) (by intro v w w' hf hs;exact (by obtain ⟨g,rfl,h⟩:=hs;exact ⟨g,rfl,hf.block h⟩))
 ·intro w1 h1 hk
  have q0:=h1.cell cv;have q1:=h1.cell cn
  exact ⟨.slice (some ⟨w1.heap.size,0,none⟩) 1 1,_,(by go_simp),Fut.alloc _ _,_,rfl,heap_alloc_new _ _⟩
 intro v11
 simp only [actS]
 apply Run.done
 intro w2 h2 hk
 obtain ⟨f11,_⟩:=hk
 obtain ⟨g,rfl,hg⟩:=f11
 have F2:=(Fut.drew _).trans h2
 have hOa:=HH1.out.fut RH.stays F2
 rw [hv] at hOa
 have hB2:=HB1.out.only (S:=fun _ => False) (Only.fut F2) (fun h => h)
 have hbs:B ≤ w2.heap.size:=Nat.le_trans hB (Nat.le_trans s1 F2.size)
 have hvn:¬ (Value.slice A hs.length cap).ownBlock = some b:=fun h => (HVB.out b (hv ▸ h)).1 rfl
 clear h2 cv cn
 go_wp2_with (first | (refine wpList_append1 (P:=Tryz.prog) (e:=162) (e':=162) (cs:=Hd.cells ⟨.slice Al nl cl,.slice none 0 0,n + 1⟩) (y:=⟨.slice Al nl cl,.slice none 0 0,n + 1⟩) (wanted_none rfl _) _ _ rfl Tryz.underlying44 infoHText rfl (by omega) RH.one (fun _ cs x h _ => RH.same _ _ cs x h) rfl rfl hOa hg rfl ⟨rfl,⟨_,_,_,rfl⟩,_,_,_,rfl⟩ (by unfold maxLen;omega) (by omega) hbs ?_;intro v3 w3 hO3 hG3 hB3;obtain ⟨A3,c3,hv3,_⟩:=hO3.rep.form;rw [List.length_append,List.length_singleton] at hv3;have O3:Only (fun k => (Value.slice A hs.length cap).ownBlock = some k) w2 w3:=Only.grown hG3 (fun k hk => hk);have hB4:=hB2.only O3 hvn;have x4:=hB4.cell (j:=12) (by omega) (by omega);have z4:=hB4.free 12;subst hv3))
 go_end0
 have OS:Only (fun k => k = b) w3 (w3.setCell ⟨b,12,none⟩ (.slice A3 (hs.length + 1) c3)):=Only.set _ _ rfl
 have s2:=F2.size
 have hfr:∀ x,(Value.slice A3 (hs.length + 1) c3).ownBlock = some x→(vs 12).ownBlock = some x∨w2.heap.size ≤ x:=fun x hx => by
  rcases hB3 with h | ⟨h,_⟩
  ·exact .inl (by rw [hv];exact (show _ = (Value.slice A hs.length cap).ownBlock from h).symm.trans hx)
  ·rw [h] at hx;injection hx with hx;exact .inr (by omega)
 refine ⟨⟨_,rfl⟩,_,hB4.setV (by omega) (by omega),hO3.only (RH.same _ _) OS (fun x hx e => ?_),?_,fun x hx => (hfr x hx).imp id fun h => by omega⟩
 ·subst e
  rcases hfr _ hx with h | h
  ·exact (HVB.out _ h).1 rfl
  ·omega
 ·rw [hv]
  exact ((O1.mono fun k _ hk => .inl hk).trans (Only.fut F2)).trans ((O3.mono fun k _ hk => .inr hk).trans (OS.mono fun k _ hk => .inl hk))
theorem addTexts_any {B:Nat} {w:World} {b:Nat} {n:Int} {vs:Nat→Value} {hs:List Hd} {Al:Option Addr} {nl cl:Nat} (hb:BookAt 65 w b n vs) (hn:0 ≤ n∧n < 1000) (hH:OwnL 3 B 162 RH w (vs 12) hs) (hvb:(vs 12).ownBlock ≠ some b) (hB:B ≤ w.heap.size) (hl:hs.length < 1000) :
    Calls Tryz.prog 24 #[.pointer (some ⟨b,0,none⟩),.slice Al nl cl] w fun e w' => (∃ u,e = .returned u)∧∃ v',BookAt 65 w' b (n + 1) (updV vs 12 v')∧OwnL 3 B 162 RH w' v' (hs ++ [⟨.slice Al nl cl,.slice none 0 0,n + 1⟩]) ∧
     Only (fun k => k = b∨(vs 12).ownBlock = some k) w w'∧∀ x,v'.ownBlock = some x→(vs 12).ownBlock = some x∨w.heap.size ≤ x:=by
 have HK:=Lib.hid (keepText_any (Al:=Al) (nl:=nl) (cl:=cl) hb hn hH hvb hB hl)
 clear hb hH
 go_enter Tryz.func24,Tryz.ntmps24
 go_wp2_with fail
 refine HK.out.mono ?_
 rintro e w2 ⟨⟨u,rfl⟩,hr⟩
 have HR:=Lib.hid hr
 clear hr
 go_wp2
 go_end0
 exact ⟨⟨_,rfl⟩,HR.out⟩
def OnlyText (vs:Nat→Value):Prop:=∀ j,j ≠ 12→vs j = .slice none 0 0
theorem OnlyText.fill {w:World} {b f j:Nat} {n:Int} {vs:Nat→Value} (hv:OnlyText vs) (h:NilB f j) (hb:BookAt 65 w b n vs) (h1:1 ≤ j∧j < 32∧j ≠ 12) {K:Ending→World→Prop} (k:∀ u,K (.returned u) w):Calls Tryz.prog f #[.pointer (some ⟨b,0,none⟩)] w K :=
 (h (by rw [← hv j h1.2.2];exact hb.cell h1.1 h1.2.1)).mono (by rintro e w' ⟨⟨u,rfl⟩,rfl⟩;exact k u)
theorem OnlyText.look {w:World} {b f j:Nat} {n:Int} {vs:Nat→Value} (hv:OnlyText vs) (h:NilL f j) (hb:BookAt 65 w b n vs) (h1:1 ≤ j∧j < 32∧j ≠ 12) {K:Ending→World→Prop} (k:K (.returned (.bool true)) w):Calls Tryz.prog f #[.pointer (some ⟨b,0,none⟩)] w K :=
 (h (by rw [← hv j h1.2.2];exact hb.cell h1.1 h1.2.1)).mono (by rintro e w' ⟨rfl,rfl⟩;exact k)
set_option maxHeartbeats 1600000 in
set_option maxRecDepth 100000 in
theorem lookOneText_any {w:World} {b:Nat} {n:Int} {vs:Nat→Value} {hs:List Hd} {ns:Nat→Nat} (hb:BookAt 65 w b n vs) (hv:OnlyText vs) (hI:SlRep 3 maxLen RH w (vs 12) hs) (lI:Looks 1 RNm markTextP ns w hs)
    (bI:∀ i,i < hs.length→ns i + 70 ≤ 8796093022207) (hPW:∀ W,Fut w W→Pows W) (hNN:∀ (i:Nat) (h:Hd),hs[i]? = some h→0 ≤ h.n∧h.n ≤ 1000000) :
    Calls Tryz.prog 72 #[.pointer (some ⟨b,0,none⟩)] w fun e w' => e = .returned (.bool true)∧Fut w w':=by
 have HB:=Lib.hid hb
 have HV:=Lib.hid hv
 have HI:=Lib.hid hI
 have LI:=Lib.hid lI
 have BI:=Lib.hid bI
 have HPW:=Lib.hid hPW
 have HNN:=Lib.hid hNN
 clear hPW hNN
 clear hb hv hI lI bI
 go_enter Tryz.func72,Tryz.ntmps72
 have F0:=Lib.hid (Fut.refl w)
 go_wp2_with fail
 refine HV.out.look lookValue_nil HB.out (by decide) ?_
 go_wp2_with fail
 refine HV.out.look lookTuple_nil HB.out (by decide) ?_
 go_wp2_with fail
 refine HV.out.look lookFact_nil HB.out (by decide) ?_
 go_wp2_with fail
 refine HV.out.look lookTerm_nil HB.out (by decide) ?_
 go_wp2_with fail
 refine HV.out.look lookExpr_nil HB.out (by decide) ?_
 go_wp2_with fail
 refine HV.out.look lookLiteral_nil HB.out (by decide) ?_
 go_wp2_with fail
 refine HV.out.look lookArg_nil HB.out (by decide) ?_
 go_wp2_with fail
 refine HV.out.look lookRule_nil HB.out (by decide) ?_
 go_wp2_with fail
 refine HV.out.look lookPair_nil HB.out (by decide) ?_
 go_wp2_with fail
 refine HV.out.look lookBind_nil HB.out (by decide) ?_
 go_wp2_with fail
 refine HV.out.look lookBindList_nil HB.out (by decide) ?_
 go_wp2_with fail
 refine (lookText_any (M:=0) ((HB.out.only (S:=fun _ => False) (Only.fut F0.out) (fun h => h)).cell (j:=12) (by omega) (by omega)) (HI.out.fut RH.stays F0.out) (LI.out.fut RNm.stays F0.out) BI.out (fun W hW => HPW.out W (F0.out.trans hW)) HNN.out).mono ?_
 rintro e w1 ⟨rfl,hf1⟩
 have F1:=Lib.hid (F0.out.trans hf1)
 clear hf1
 go_wp2_with fail
 refine HV.out.look lookTextList_nil (HB.out.only (S:=fun _ => False) (Only.fut F1.out) id) (by decide) ?_
 go_wp2_with fail
 refine HV.out.look lookInt_nil (HB.out.only (S:=fun _ => False) (Only.fut F1.out) id) (by decide) ?_
 go_wp2_with fail
 refine HV.out.look lookRow_nil (HB.out.only (S:=fun _ => False) (Only.fut F1.out) id) (by decide) ?_
 go_wp2_with fail
 refine HV.out.look lookToken_nil (HB.out.only (S:=fun _ => False) (Only.fut F1.out) id) (by decide) ?_
 go_wp2
 go_ret
 exact ⟨rfl,F1.out⟩
set_option maxHeartbeats 1600000 in
set_option maxRecDepth 100000 in
theorem lookTwoText_any {w:World} {b:Nat} {n:Int} {vs:Nat→Value} {hs:List Hd} {ns:Nat→Nat} (hb:BookAt 65 w b n vs) (hv:OnlyText vs) (hI:SlRep 3 maxLen RH w (vs 12) hs) (lI:Looks 1 RNm markTextP ns w hs)
    (bI:∀ i,i < hs.length→ns i + 70 ≤ 8796093022207) (hPW:∀ W,Fut w W→Pows W) (hNN:∀ (i:Nat) (h:Hd),hs[i]? = some h→0 ≤ h.n∧h.n ≤ 1000000) :
    Calls Tryz.prog 73 #[.pointer (some ⟨b,0,none⟩)] w fun e w' => e = .returned (.bool true)∧Fut w w':=by
 have HB:=Lib.hid hb
 have HV:=Lib.hid hv
 have HI:=Lib.hid hI
 have LI:=Lib.hid lI
 have BI:=Lib.hid bI
 have HPW:=Lib.hid hPW
 have HNN:=Lib.hid hNN
 clear hPW hNN
 clear hb hv hI lI bI
 go_enter Tryz.func73,Tryz.ntmps73
 have F0:=Lib.hid (Fut.refl w)
 go_wp2_with fail
 refine HV.out.look lookPred_nil HB.out (by decide) ?_
 go_wp2_with fail
 refine HV.out.look lookType_nil HB.out (by decide) ?_
 go_wp2_with fail
 refine HV.out.look lookSig_nil HB.out (by decide) ?_
 go_wp2_with fail
 refine HV.out.look lookEdge_nil HB.out (by decide) ?_
 go_wp2_with fail
 refine HV.out.look lookLevel_nil HB.out (by decide) ?_
 go_wp2_with fail
 refine HV.out.look lookMask_nil HB.out (by decide) ?_
 go_wp2_with fail
 refine HV.out.look lookStep_nil HB.out (by decide) ?_
 go_wp2_with fail
 refine HV.out.look lookRanked_nil HB.out (by decide) ?_
 go_wp2_with fail
 refine HV.out.look lookAdorned_nil HB.out (by decide) ?_
 go_wp2_with fail
 refine HV.out.look lookTable_nil HB.out (by decide) ?_
 go_wp2_with fail
 refine HV.out.look lookProof_nil HB.out (by decide) ?_
 go_wp2_with fail
 refine HV.out.look lookSize_nil HB.out (by decide) ?_
 go_wp2_with fail
 refine HV.out.look lookFloat_nil HB.out (by decide) ?_
 go_wp2_with fail
 refine HV.out.look lookCommit_nil HB.out (by decide) ?_
 go_wp2_with fail
 refine HV.out.look lookEvent_nil HB.out (by decide) ?_
 go_wp2
 go_ret
 exact ⟨rfl,F0.out⟩
structure B1Text (B:Nat) (w:World) (b:Nat) (n:Int) (vs:Nat→Value) (hs:List Hd) (fi:Nat→List ByteArray):Prop where
 book:BookAt 65 w b n vs
 only:OnlyText vs
 held:OwnL 3 B 162 RH w (vs 12) hs
 lists:Lists 1 B 9 RNm w hs fi
 base:B ≤ w.heap.size
section
variable {B:Nat} {w w':World} {b:Nat} {n:Int} {vs:Nat→Value} {hs:List Hd} {fi:Nat→List ByteArray}
theorem B1Text.tB (h:B1Text B w b n vs hs fi):Ty w 65 b:=by
 obtain ⟨arr,h0,_⟩:=h.book.blk
 exact ⟨arr,h0⟩
theorem B1Text.tH (h:B1Text B w b n vs hs fi) {k:Nat} (hk:(vs 12).ownBlock = some k):Ty w 162 k:=h.held.typed k hk
theorem B1Text.tI (h:B1Text B w b n vs hs fi) {k:Nat} (hk:ownsL hs k):Ty w 9 k:=h.lists.typed k hk
def ownsText (vs:Nat→Value) (hs:List Hd) (k:Nat):Prop:=ownsL hs k∨(vs 12).ownBlock = some k
set_option maxHeartbeats 1600000 in
set_option maxRecDepth 100000 in
theorem growAllText_any {ns:Nat→Nat} (h:B1Text B w b n vs hs (fun i => List.replicate (ns i) (markTextP ((hs.getD i ⟨.slice none 0 0,.slice none 0 0,0⟩).n)))) (bI:∀ i,i < hs.length→ns i + 70 ≤ 8796093022207) (hPW:∀ W,Only (fun k => B ≤ k) w W→Pows W) (hNN:∀ (i:Nat) (h:Hd),hs[i]? = some h→0 ≤ h.n∧h.n ≤ 1000000) :
    Calls Tryz.prog 71 #[.pointer (some ⟨b,0,none⟩)] w fun e w' => (∃ u,e = .returned u)∧∃ hs',hs'.length = hs.length∧BookAt 65 w' b n vs∧SlRep 3 maxLen RH w' (vs 12) hs'∧Looks 1 RNm markTextP ns w' hs'∧Only (ownsText vs hs) w w'∧(∀ (i:Nat) (h:Hd),hs'[i]? = some h→0 ≤ h.n∧h.n ≤ 1000000):=by
 have H:=Lib.hid h
 have HV:=Lib.hid h.only
 have BI:=Lib.hid bI
 have HPW:=Lib.hid hPW
 have HNN:=Lib.hid hNN
 clear hPW hNN
 clear h bI
 go_enter Tryz.func71,Tryz.ntmps71
 go_wp2_with fail
 refine HV.out.fill growValue_nil H.out.book (by decide) ?_
 intro u
 go_wp2_with fail
 refine HV.out.fill growTuple_nil H.out.book (by decide) ?_
 intro u
 go_wp2_with fail
 refine HV.out.fill growFact_nil H.out.book (by decide) ?_
 intro u
 go_wp2_with fail
 refine HV.out.fill growTerm_nil H.out.book (by decide) ?_
 intro u
 go_wp2_with fail
 refine HV.out.fill growExpr_nil H.out.book (by decide) ?_
 intro u
 go_wp2_with fail
 refine HV.out.fill growLiteral_nil H.out.book (by decide) ?_
 intro u
 go_wp2_with fail
 refine HV.out.fill growArg_nil H.out.book (by decide) ?_
 intro u
 go_wp2_with fail
 refine HV.out.fill growRule_nil H.out.book (by decide) ?_
 intro u
 go_wp2_with fail
 refine HV.out.fill growPair_nil H.out.book (by decide) ?_
 intro u
 go_wp2_with fail
 refine HV.out.fill growBind_nil H.out.book (by decide) ?_
 intro u
 go_wp2_with fail
 refine HV.out.fill growBindList_nil H.out.book (by decide) ?_
 intro u
 go_wp2_with fail
 refine (growText_any (H.out.book.cell (j:=12) (by omega) (by omega)) H.out.held H.out.lists (fun hk => H.out.tI hk |>.ne H.out.tB (by decide) rfl) (fun hk => H.out.tH hk |>.ne H.out.tB (by decide) rfl) (fun k hk hk2 => (H.out.tH hk).ne (H.out.tI hk2) (by decide) rfl) H.out.base BI.out HPW.out HNN.out).mono ?_
 rintro e w2 ⟨⟨u,rfl⟩,hs',hG⟩
 have HNN':=Lib.hid (fun i h hi => (hG.num (P:=fun n => 0 ≤ n∧n ≤ 1000000) HNN.out i h hi))
 have O2:=hG.only
 have hB2:=H.out.book.only O2 (fun hk => hk.elim (fun hk => H.out.tI hk |>.ne H.out.tB (by decide) rfl) fun hk => H.out.tH hk |>.ne H.out.tB (by decide) rfl)
 obtain ⟨gI,kI⟩:=hG.looks (W':=w2) (S:=fun _ => False) (RNm.same _ _) (Only.refl _) (fun k hk => hk.elim)
 have HB2:=Lib.hid hB2
 have HX:=Lib.hid (show hs'.length = hs.length∧SlRep 3 maxLen RH w2 (vs 12) hs'∧Looks 1 RNm markTextP ns w2 hs'∧Only (ownsText vs hs) w w2 from ⟨hG.len,gI.rep,kI,O2⟩)
 clear hB2 hG O2 gI kI
 go_wp2_with fail
 refine HV.out.fill growTextList_nil HB2.out (by decide) ?_
 intro u
 go_wp2_with fail
 refine HV.out.fill growInt_nil HB2.out (by decide) ?_
 intro u
 go_wp2_with fail
 refine HV.out.fill growRow_nil HB2.out (by decide) ?_
 intro u
 go_wp2_with fail
 refine HV.out.fill growToken_nil HB2.out (by decide) ?_
 intro u
 go_wp2_with fail
 refine HV.out.fill growPred_nil HB2.out (by decide) ?_
 intro u
 go_wp2_with fail
 refine HV.out.fill growType_nil HB2.out (by decide) ?_
 intro u
 go_wp2_with fail
 refine HV.out.fill growSig_nil HB2.out (by decide) ?_
 intro u
 go_wp2_with fail
 refine HV.out.fill growEdge_nil HB2.out (by decide) ?_
 intro u
 go_wp2_with fail
 refine HV.out.fill growLevel_nil HB2.out (by decide) ?_
 intro u
 go_wp2_with fail
 refine HV.out.fill growMask_nil HB2.out (by decide) ?_
 intro u
 go_wp2_with fail
 refine HV.out.fill growStep_nil HB2.out (by decide) ?_
 intro u
 go_wp2_with fail
 refine HV.out.fill growRanked_nil HB2.out (by decide) ?_
 intro u
 go_wp2_with fail
 refine HV.out.fill growAdorned_nil HB2.out (by decide) ?_
 intro u
 go_wp2_with fail
 refine HV.out.fill growTable_nil HB2.out (by decide) ?_
 intro u
 go_wp2_with fail
 refine HV.out.fill growProof_nil HB2.out (by decide) ?_
 intro u
 go_wp2_with fail
 refine HV.out.fill growSize_nil HB2.out (by decide) ?_
 intro u
 go_wp2_with fail
 refine HV.out.fill growFloat_nil HB2.out (by decide) ?_
 intro u
 go_wp2_with fail
 refine HV.out.fill growCommit_nil HB2.out (by decide) ?_
 intro u
 go_wp2_with fail
 refine HV.out.fill growEvent_nil HB2.out (by decide) ?_
 intro u
 go_wp2
 go_end0
 obtain ⟨x1,x2,x3,x4⟩:=HX.out
 exact ⟨⟨_,rfl⟩,hs',x1,HB2.out,x2,x3,x4,HNN'.out⟩
set_option maxHeartbeats 1600000 in
set_option maxRecDepth 100000 in
theorem apartText_any (h:B1Text B w b n vs hs fi) (bI:∀ i,i < hs.length→(fi i).length + 70 ≤ 8796093022207) (hPW:∀ W,Only (fun k => B ≤ k) w W→Pows W) (hNN:∀ (i:Nat) (h:Hd),hs[i]? = some h→0 ≤ h.n∧h.n ≤ 1000000) :
    Calls Tryz.prog 15 #[.pointer (some ⟨b,0,none⟩)] w fun e w' => e = .returned (.bool true)∧Only (ownsText vs hs) w w':=by
 have H:=Lib.hid h
 have HV:=Lib.hid h.only
 have BI:=Lib.hid bI
 have HPW:=Lib.hid hPW
 have HNN:=Lib.hid hNN
 clear hPW hNN
 clear h bI
 go_enter Tryz.func15,Tryz.ntmps15
 go_wp2_with fail
 refine HV.out.fill fillValue_nil H.out.book (by decide) ?_
 intro u
 go_wp2_with fail
 refine HV.out.fill fillTuple_nil H.out.book (by decide) ?_
 intro u
 go_wp2_with fail
 refine HV.out.fill fillFact_nil H.out.book (by decide) ?_
 intro u
 go_wp2_with fail
 refine HV.out.fill fillTerm_nil H.out.book (by decide) ?_
 intro u
 go_wp2_with fail
 refine HV.out.fill fillExpr_nil H.out.book (by decide) ?_
 intro u
 go_wp2_with fail
 refine HV.out.fill fillLiteral_nil H.out.book (by decide) ?_
 intro u
 go_wp2_with fail
 refine HV.out.fill fillArg_nil H.out.book (by decide) ?_
 intro u
 go_wp2_with fail
 refine HV.out.fill fillRule_nil H.out.book (by decide) ?_
 intro u
 go_wp2_with fail
 refine HV.out.fill fillPair_nil H.out.book (by decide) ?_
 intro u
 go_wp2_with fail
 refine HV.out.fill fillBind_nil H.out.book (by decide) ?_
 intro u
 go_wp2_with fail
 refine HV.out.fill fillBindList_nil H.out.book (by decide) ?_
 intro u
 go_wp2_with fail
 refine (fillText_any (H.out.book.cell (j:=12) (by omega) (by omega)) H.out.held H.out.lists (fun hk => H.out.tI hk |>.ne H.out.tB (by decide) rfl) (fun k hk hk2 => (H.out.tH hk).ne (H.out.tI hk2) (by decide) rfl) HPW.out HNN.out).mono ?_
 rintro e w2 ⟨⟨u,rfl⟩,lI2,O2⟩
 have HP2:=Lib.hid (fun W (hW:Only (fun k => B ≤ k) w2 W) => HPW.out W ((O2.mono fun j _ hj => (H.out.lists.lt j hj).1).trans hW))
 have hB2:=H.out.book.only O2 (fun hk => H.out.tI hk |>.ne H.out.tB (by decide) rfl)
 have hI2:=H.out.held.only (RH.same _ _) O2 (fun k hk hk2 => (H.out.tH hk).ne (H.out.tI hk2) (by decide) rfl)
 have H3:=Lib.hid (B1Text.mk hB2 H.out.only hI2 (lI2.cong fun i hi' => mark_cong hi') (Nat.le_trans H.out.base O2.size))
 have HO3:=Lib.hid (O2.mono fun k _ hk => show ownsText vs hs k from .inl hk)
 clear hB2 hI2 lI2 O2
 go_wp2_with fail
 refine HV.out.fill fillTextList_nil H3.out.book (by decide) ?_
 intro u
 go_wp2_with fail
 refine HV.out.fill fillInt_nil H3.out.book (by decide) ?_
 intro u
 go_wp2_with fail
 refine HV.out.fill fillRow_nil H3.out.book (by decide) ?_
 intro u
 go_wp2_with fail
 refine HV.out.fill fillToken_nil H3.out.book (by decide) ?_
 intro u
 go_wp2_with fail
 refine HV.out.fill fillPred_nil H3.out.book (by decide) ?_
 intro u
 go_wp2_with fail
 refine HV.out.fill fillType_nil H3.out.book (by decide) ?_
 intro u
 go_wp2_with fail
 refine HV.out.fill fillSig_nil H3.out.book (by decide) ?_
 intro u
 go_wp2_with fail
 refine HV.out.fill fillEdge_nil H3.out.book (by decide) ?_
 intro u
 go_wp2_with fail
 refine HV.out.fill fillLevel_nil H3.out.book (by decide) ?_
 intro u
 go_wp2_with fail
 refine HV.out.fill fillMask_nil H3.out.book (by decide) ?_
 intro u
 go_wp2_with fail
 refine HV.out.fill fillStep_nil H3.out.book (by decide) ?_
 intro u
 go_wp2_with fail
 refine HV.out.fill fillRanked_nil H3.out.book (by decide) ?_
 intro u
 go_wp2_with fail
 refine HV.out.fill fillAdorned_nil H3.out.book (by decide) ?_
 intro u
 go_wp2_with fail
 refine HV.out.fill fillTable_nil H3.out.book (by decide) ?_
 intro u
 go_wp2_with fail
 refine HV.out.fill fillProof_nil H3.out.book (by decide) ?_
 intro u
 go_wp2_with fail
 refine HV.out.fill fillSize_nil H3.out.book (by decide) ?_
 intro u
 go_wp2_with fail
 refine HV.out.fill fillFloat_nil H3.out.book (by decide) ?_
 intro u
 go_wp2_with fail
 refine HV.out.fill fillCommit_nil H3.out.book (by decide) ?_
 intro u
 go_wp2_with fail
 refine HV.out.fill fillEvent_nil H3.out.book (by decide) ?_
 intro u
 go_wp2_with fail
 refine (growAllText_any H3.out BI.out HP2.out HNN.out).mono ?_
 rintro e w4 ⟨⟨u,rfl⟩,hs',x1,x3,x4,x6,x8,x9⟩
 have HN4:=Lib.hid x9
 have HP4:=Lib.hid (fun W (hW:Fut w4 W) => HP2.out W ((x8.mono fun j _ hj => hj.elim (fun h => (H3.out.lists.lt j h).1) fun h => (H3.out.held.block j h).1).trans (Only.fut hW)))
 clear x9
 have HX:=Lib.hid (show BookAt 65 w4 b n vs∧SlRep 3 maxLen RH w4 (vs 12) hs'∧Looks 1 RNm markTextP (fun i => (fi i).length) w4 hs' from ⟨x3,x4,x6⟩)
 have HO4:=Lib.hid (HO3.out.trans x8)
 have BI':=Lib.hid (fun i (h:i < hs'.length) => BI.out i (by rw [← x1];exact h))
 clear x1 x3 x4 x6 x8
 go_wp2_with fail
 refine (lookOneText_any HX.out.1 HV.out HX.out.2.1 HX.out.2.2 BI'.out HP4.out HN4.out).mono ?_
 rintro e w5 ⟨rfl,f5⟩
 have F5:=Lib.hid f5
 clear f5
 go_wp2_with fail
 refine (lookTwoText_any (HX.out.1.only (S:=fun _ => False) (Only.fut F5.out) (fun h => h)) HV.out (HX.out.2.1.fut RH.stays F5.out) (HX.out.2.2.fut RNm.stays F5.out) BI'.out (fun W hW => HP4.out W (F5.out.trans hW)) HN4.out).mono ?_
 rintro e w6 ⟨rfl,f6⟩
 have F6:=Lib.hid (F5.out.trans f6)
 clear f6
 go_wp2
 go_ret
 exact ⟨rfl,HO4.out.trans (Only.fut F6.out)⟩
theorem B1Text.new (h:BookAt 65 w b 0 (fun _ => .slice none 0 0)) (hB:B ≤ w.heap.size) (fi:Nat→List ByteArray):B1Text B w b 0 (fun _ => .slice none 0 0) [] fi :=
 ⟨h,fun _ _ => rfl,OwnL.nil,Lists.nil,hB⟩
theorem put_B1Text (h:B1Text B w b n vs hs fi) (hn:0 ≤ n∧n < 1000) (hl:hs.length < 1000) {A:Option Addr} {nl cl:Nat} {ys:List ByteArray} (hv:OwnL 1 B 9 RNm w (.slice A nl cl) ys) (hap:∀ k,(Value.slice A nl cl).ownBlock = some k→¬ ownsL hs k) :
    Calls Tryz.prog 24 #[.pointer (some ⟨b,0,none⟩),.slice A nl cl] w fun e w' => (∃ u,e = .returned u)∧∃ vs',B1Text B w' b (n + 1) vs' (hs ++ [⟨.slice A nl cl,.slice none 0 0,n + 1⟩]) (snocF fi hs.length ys) ∧
     Only (fun k => k = b∨(vs 12).ownBlock = some k) w w'∧∀ j x,(vs' j).ownBlock = some x→(vs j).ownBlock = some x∨w.heap.size ≤ x:=by
 have nHB:∀ k,(vs 12).ownBlock = some k→k ≠ b:=fun k hk e => (h.tH hk).ne h.tB (by decide) e
 refine (addTexts_any (Al:=A) (nl:=nl) (cl:=cl) h.book hn h.held (fun e => nHB b e rfl) h.base hl).mono ?_
 rintro e w' ⟨hu,v',hb,hH,hO,hv'⟩
 have n2:∀ k,ownsL hs k→¬ (k = b∨(vs 12).ownBlock = some k):=fun k hk hS => by
  rcases hS with rfl | hS
  ·exact (h.tI hk).ne h.tB (by decide) rfl
  ·exact (h.tI hk).ne (h.tH hS) (by decide) rfl
 have n4:∀ k,(Value.slice A nl cl).ownBlock = some k→¬ (k = b∨(vs 12).ownBlock = some k):=fun k hk hS => by
  have ht:Ty w 9 k:=hv.typed k hk
  rcases hS with rfl | hS
  ·exact ht.ne h.tB (by decide) rfl
  ·exact ht.ne (h.tH hS) (by decide) rfl
 refine ⟨hu,updV vs 12 v',⟨hb,fun j h1 => by rw [updV_ne h1];exact h.only j h1,by rw [updV_self];exact hH,
  (h.lists.only (RNm.same _ _) hO n2).snoc (h:=⟨.slice A nl cl,.slice none 0 0,n + 1⟩) (hv.only (RNm.same _ _) hO n4) hap,Nat.le_trans h.base hO.size⟩,hO,fun j x hx => ?_⟩
 by_cases hj:j = 12
 ·subst hj;rw [updV_self] at hx;exact hv' x hx
 ·rw [updV_ne hj] at hx;exact .inl hx
end
structure BkText (B BN:Nat) (w0 w:World) (n:Int) (vs:Nat→Value) (hs:List Hd) (fi:Nat→List ByteArray):Prop where
 b1:B1Text B w BN n vs hs fi
 low:∀ j x,(vs j).ownBlock = some x→BN ≤ x
 on:Only (fun k => BN ≤ k) w0 w
theorem BkText.put {B BN:Nat} {w0 w:World} {n:Int} {vs:Nat→Value} {hs:List Hd} {fi:Nat→List ByteArray} (h:BkText B BN w0 w n vs hs fi) (hn:0 ≤ n∧n < 1000) (hl:hs.length < 1000) {A:Option Addr} {nl cl:Nat} {ys:List ByteArray} (hv:OwnL 1 B 9 RNm w0 (.slice A nl cl) ys) (hlt:∀ k,(Value.slice A nl cl).ownBlock = some k→k < BN) (hap:∀ k,(Value.slice A nl cl).ownBlock = some k→¬ ownsL hs k) :
    Calls Tryz.prog 24 #[.pointer (some ⟨BN,0,none⟩),.slice A nl cl] w fun e w' => (∃ u,e = .returned u)∧∃ vs',BkText B BN w0 w' (n + 1) vs' (hs ++ [⟨.slice A nl cl,.slice none 0 0,n + 1⟩]) (snocF fi hs.length ys):=by
 refine (put_B1Text h.b1 hn hl (hv.only (RNm.same _ _) h.on fun k hk hb => by have:=hlt k hk;omega) hap).mono ?_
 rintro e w' ⟨hu,vs',h1,h2,h3⟩
 have hbl:=h.b1.book.lt
 exact ⟨hu,vs',h1,fun j x hx => by
  rcases h3 j x hx with h4 | h4
  ·exact h.low j x h4
  ·omega,h.on.trans (h2.mono fun k _ hk => by
  rcases hk with rfl | hk
  ·exact Nat.le_refl _
  ·exact h.low 12 k hk)⟩
end Go.Proofs.YtobabnpllokkaaaGreatDoor
namespace Go.Proofs.YtobabnpllokkaaaGreatDoor
open Go.RowKit Go.WideMaps Go.Maps
def named (xs:List Ru) (i:Nat) (p:ByteArray):List Ru:=match xs[i]? with
 | some r => xs.set i { r with p:=p }
 | none => xs
theorem SlU.name {g:Nat} {w:World} {v:Value} {xs:List Ru} (h:SlU g w v xs) (i:Nat) (hi:i < xs.length) (p:ByteArray) (hp:p.size ≤ 140737488351232) :
    (∃ c,w.cell? ⟨g,i * 3,none⟩ = some c)∧w.frozen? ⟨g,i * 3,none⟩ = false∧SlU g (w.setCell ⟨g,i * 3,none⟩ (.string p)) v (xs.set i { xs[i] with p:=p })∧Only (fun k => k = g) w (w.setCell ⟨g,i * 3,none⟩ (.string p)):=by
 obtain ⟨rfl,h2,arr,h3,h4,h5⟩:=h
 have hO:Only (fun k => k = g) w (w.setCell ⟨g,i * 3,none⟩ (.string p)):=Only.set _ _ rfl
 have hin:i * 3 < arr.size:=by omega
 refine ⟨⟨arr[i * 3],by simp [World.cell?,h3,hin]⟩,free_at h3 _,⟨by rw [List.length_set],by rw [List.length_set];exact h2,_,set_blk h3,by rw [List.length_set];simpa using h4,fun m x hx => ?_⟩,hO⟩
 rw [List.getElem?_set] at hx
 by_cases hm:i = m
 ·subst hm
  rw [if_pos rfl,if_pos hi] at hx
  obtain rfl:=Option.some.inj hx
  obtain ⟨cs,a,b,c⟩:=h5 i xs[i] (List.getElem?_eq_getElem hi)
  obtain ⟨hv,bv,rfl,_,_,_⟩:=c.now
  refine ⟨[.string p,hv,bv],rfl,fun j c' hj => ?_,fun w' hO' => ?_⟩
  ·match j,hj with
   | 0,hj =>
    injection hj with hj
    subst hj
    rw [Nat.add_zero,Array.getElem?_setIfInBounds,if_pos rfl,if_pos hin]
   | j + 1,hj =>
    rw [Array.getElem?_setIfInBounds,if_neg (by omega)]
    exact b (j + 1) c' hj
  ·obtain ⟨hv',bv',e,_,q1,q2⟩:=c w' (hO.trans hO')
   injection e with _ e
   injection e with e1 e
   injection e with e2 _
   exact ⟨hv,bv,rfl,hp,e1 ▸ q1,e2 ▸ q2⟩
 ·rw [if_neg hm] at hx
  obtain ⟨cs2,a,b,c⟩:=h5 m x hx
  refine ⟨cs2,a,fun j c' hj => ?_,c.only hO⟩
  have hj3:j < 3:=by rw [← a];exact (List.getElem?_eq_some_iff.1 hj).1
  rw [Array.getElem?_setIfInBounds,if_neg (by omega)]
  exact b j c' hj
theorem named_ok {xs:List Ru} (i:Nat) (p:ByteArray) (hi:i < xs.length):(xs.set i { xs[i] with p:=p }).length = xs.length∧((xs.set i { xs[i] with p:=p }).map Ru.parts) = xs.map Ru.parts∧((∀ x ∈ xs,x.fits)→∀ x ∈ xs.set i { xs[i] with p:=p },x.fits):=by
 refine ⟨List.length_set ..,?_,fun h x hx => ?_⟩
 ·rw [List.map_set]
  have e:Ru.parts { xs[i] with p:=p } = (xs.map Ru.parts)[i]'(by rw [List.length_map];exact hi):=by
   rw [List.getElem_map];rfl
  rw [e,List.set_getElem_self]
 ·rcases List.mem_or_eq_of_mem_set hx with hx | rfl
  ·exact h x hx
  ·have:=h xs[i] (List.getElem_mem hi)
   exact this
theorem reach_other {L:List ByteArray} (h:ReachOf otherP zB L):L = [xB,yB,zB]:=by
 refine h.uniq ⟨by unfold Up;decide +kernel,fun x => ⟨fun hx => ?_,fun hx => ?_⟩⟩
 ·have e:edgesP otherP = [⟨zB,yB,2,0⟩,⟨zB,zB,1,0⟩,⟨yB,xB,1,1⟩]:=by kernel_rfl
  have s1:Rch (drawP otherP) zB yB:=.one (edge_suc.2 ⟨⟨zB,yB,2,0⟩,by rw [e];simp,rfl,rfl⟩)
  have s2:Rch (drawP otherP) yB xB:=.one (edge_suc.2 ⟨⟨yB,xB,1,1⟩,by rw [e];simp,rfl,rfl⟩)
  simp only [List.mem_cons,List.not_mem_nil,or_false] at hx
  rcases hx with rfl | rfl | rfl
  ·exact s1.trans s2
  ·exact s1
  ·exact .refl _
 ·refine hx.closed (D:=fun x => x ∈ [xB,yB,zB]) (fun u hu t ht => ?_) (by simp)
  obtain ⟨e,he,rfl,rfl⟩:=edge_suc.1 ht
  have e9:edgesP otherP = [⟨zB,yB,2,0⟩,⟨zB,zB,1,0⟩,⟨yB,xB,1,1⟩]:=by kernel_rfl
  rw [e9] at he
  simp only [List.mem_cons,List.not_mem_nil,or_false] at he
  rcases he with rfl | rfl | rfl <;> simp
end Go.Proofs.YtobabnpllokkaaaGreatDoor
