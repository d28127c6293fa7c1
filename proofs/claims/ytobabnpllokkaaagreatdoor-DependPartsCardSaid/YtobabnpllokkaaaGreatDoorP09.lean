/- Parts. -/
import Derived.Test.YtobabnpllokkaaaGreatDoorP08
import Derived.Test.YtobabnpllokkaaaGreatDoorP02
import Derived.Test.YtobabnpllokkaaaGreatDoorP00
set_option linter.unusedSimpArgs false
set_option linter.unusedVariables false
namespace Go.Proofs.YtobabnpllokkaaaGreatDoor
open Go.RowKit Go.WideMaps Go.Maps
abbrev tFd:TypeId:=373
structure FdSt (B:Nat) (w:World) (fb mb:Nat) (L:List ByteArray) (lv:Value):Prop where
 cell:w.heap[fb]?=some (.cells #[lv,.map (some mb)] tFd (0,0))
 list:OwnL 1 B 9 RNm w lv L
 map:MapE strV w mb (numE 0 L)
 sizes:∀ s ∈ L,s.size≤140737488351232
 low:B≤fb∧B≤mb
def ffoot (fb mb:Nat) (lv:Value) (k:Nat):Prop:=k=fb∨k=mb∨lv.ownBlock=some k
section
variable {B fb mb:Nat} {w w':World} {L:List ByteArray} {lv:Value}
theorem FdSt.sep (h:FdSt B w fb mb L lv):mb≠fb∧∀ k,lv.ownBlock=some k→k≠fb∧k≠mb:=by
 refine ⟨map_ne h.map h.cell,fun k hk => ?_⟩;obtain ⟨arr,h1⟩:=h.list.typed k hk;refine ⟨fun e => ?_,fun e => map_ne h.map h1 e.symm⟩;rw [e,h.cell] at h1;injection h1 with h1
 injection h1 with _ h2
 exact absurd h2 (by decide)
theorem FdSt.fut (h:FdSt B w fb mb L lv) (hf:Fut w w'):FdSt B w' fb mb L lv :=
 ⟨hf.block h.cell,h.list.fut RNm.stays hf,h.map.fut hf,h.sizes,h.low⟩
theorem FdSt.ok (h:FdSt B w fb mb L lv):∀ q ∈ numE 0 L,q.1.size≤maxLen:=fun q hq => by
 have:q.1 ∈ (numE 0 L).map (·.1):=List.mem_map.2 ⟨q,hq,rfl⟩;rw [numE_keys] at this;exact Nat.le_trans (h.sizes _ this) (by unfold maxLen;omega)
theorem FdSt.only {S:Nat→Prop} (h:FdSt B w fb mb L lv) (hO:Only S w w') (hS:∀ k,ffoot fb mb lv k→¬ S k):FdSt B w' fb mb L lv :=
 ⟨hO.keeps h.cell (hS _ (.inl rfl)),h.list.only (fun _ _ h => h) hO fun k hk => hS _ (.inr (.inr hk)),h.map.kept (hO.block mb h.map.lt (hS _ (.inr (.inl rfl)))),h.sizes,h.low⟩
theorem FdSt.grow {W:World} {v:ByteArray} {v':Value} (h:FdSt B W fb mb L lv) (o:OwnL 1 B 9 RNm w' v' (L++[v])) (g:W.grownBy w' lv.ownBlock) (sn:SameOrNew W lv v') (hv:v.size≤140737488351232) :
    w'.cell? ⟨fb,0,none⟩=some lv∧w'.frozen? ⟨fb,0,none⟩=false∧MapE strV (w'.setCell ⟨fb,0,none⟩ v') mb (numE 0 L)∧(w'.setCell ⟨fb,0,none⟩ v').cell? ⟨fb,1,none⟩=some (.map (some mb))∧(w'.setCell ⟨fb,0,none⟩ v').cell? ⟨fb,0,none⟩=some v' ∧
     Only (ffoot fb mb lv) W (w'.setCell ⟨fb,0,none⟩ v')∧∀ w2 w3,Fut (w'.setCell ⟨fb,0,none⟩ v') w2→MapE strV w3 mb (numE 0 (L++[v]))→w2.grownBy w3 (some mb)→FdSt B w3 fb mb (L++[v]) v':=by
 obtain ⟨s1,s4⟩:=h.sep;have O1:Only (fun k => lv.ownBlock=some k) W w':=Only.grown g fun k hk => hk;have b1:=O1.keeps h.cell (fun e => (s4 _ e).1 rfl);have m1:MapE strV w' mb (numE 0 L):=h.map.kept (O1.block mb h.map.lt fun e => (s4 _ e).2 rfl);have O2:Only (fun k => k=fb) w' (w'.setCell ⟨fb,0,none⟩ v'):=Only.set _ _ rfl;have b3:(w'.setCell ⟨fb,0,none⟩ v').heap[fb]?=some (.cells #[v',.map (some mb)] tFd (0,0)):=by simp [World.setCell,Array.getElem?_modify,b1]
 have m2:MapE strV (w'.setCell ⟨fb,0,none⟩ v') mb (numE 0 L):=m1.kept (O2.block mb m1.lt s1)
 have hob:∀ k,v'.ownBlock=some k→k≠fb∧k≠mb:=fun k hk => by
  rcases sn with e|e
  ·rw [e] at hk;exact s4 k hk
  ·have h1:=e k hk;have h2:=(Array.getElem?_eq_some_iff.1 h.cell).1;have h3:=h.map.lt;exact ⟨by omega,by omega⟩
 have o2:OwnL 1 B 9 RNm (w'.setCell ⟨fb,0,none⟩ v') v' (L++[v]):=o.only (fun _ _ h => h) O2 fun k hk => (hob k hk).1;refine ⟨cell_at b1 0 _ rfl,free_at b1 0,m2,cell_at b3 1 _ rfl,cell_at b3 0 _ rfl,(O1.mono fun k _ hk => .inr (.inr hk)).trans (O2.mono fun k _ hk => .inl hk),fun w2 w3 f2 m3 g3 => ?_⟩;have O3:Only (fun k => k=mb) (w'.setCell ⟨fb,0,none⟩ v') w3:=(Only.fut f2).trans (Only.grown g3 fun k hk => by injection hk with hk;exact hk.symm)
 exact ⟨O3.keeps b3 (fun e => s1 e.symm),o2.only (fun _ _ h => h) O3 fun k hk => (hob k hk).2,m3,fun s hs => by
  rcases List.mem_append.1 hs with hs|hs
  ·exact h.sizes s hs
  ·rw [List.mem_singleton] at hs;subst hs;exact hv,h.low⟩
end
set_option maxHeartbeats 1000000 in
theorem hasF_any {B fb mb:Nat} {L:List ByteArray} {lv:Value} (v:ByteArray) (w:World) (h:FdSt B w fb mb L lv) (hv:v.size≤140737488351232) :
    Calls Tryz.prog 277 #[.pointer (some ⟨fb,0,none⟩),.string v] w fun e w' => e = .returned (.bool (decide (v ∈ L)))∧w'=w:=by
 have y2:=cell_at h.cell 1 _ rfl;have hvm:v.size≤maxLen:=Nat.le_trans hv (by unfold maxLen;omega);have HL:=fun W (hW:Fut w W) => show (Instr.lookup tVm (.map (some mb)) (.string v) false).run Tryz.prog W = .ok ((getE (numE 0 L) v).getD (.int .i64 0)) W from ((h.map.fut hW).look keyStr h.ok Tryz.underlying97 zeroInt (x:=v) hvm).1;replace HL:=HL w (Fut.refl w)
 by_cases e3:v ∈ L
 ·obtain ⟨n,hn,hg⟩:=numE_in 0 L v e3;rw [hg,Option.getD_some] at HL;have hn':(n:Int) > 0:=by omega
  have hn'':0<n:=by omega
  obtain ⟨d,hd⟩:∃ d,decide (v ∈ L)=d:=⟨_,rfl⟩
  obtain rfl:d=true:=by rw [← hd];simpa using e3
  rw [hd];clear hg hd e3;go_enter Tryz.func277,Tryz.ntmps277;go_wp2;go_ret;exact ⟨rfl,rfl⟩
 ·have hnk:∀ q ∈ numE 0 L,q.1≠v:=fun q hq e => e3 (by
    have h9:q.1 ∈ (numE 0 L).map (·.1):=List.mem_map.2 ⟨q,hq,rfl⟩;rw [numE_keys,e] at h9;exact h9)
  rw [getE_none hnk,Option.getD_none] at HL;obtain ⟨d,hd⟩:∃ d,decide (v ∈ L)=d:=⟨_,rfl⟩
  obtain rfl:d=false:=by rw [← hd];simpa using e3
  rw [hd];clear hnk hd e3;go_enter Tryz.func277,Tryz.ntmps277;go_wp2;go_ret;exact ⟨rfl,rfl⟩
theorem allIn_take {L vs:List ByteArray} {k:Nat} (hk:k<vs.length) (h:∀ y ∈ vs.take k,y ∈ L) (hx:vs[k] ∈ L):∀ y ∈ vs.take (k+1),y ∈ L:=fun y hy => by
 rw [List.take_succ_eq_append_getElem hk,List.mem_append] at hy;rcases hy with hy|hy
 ·exact h y hy
 ·rw [List.mem_singleton] at hy;subst hy;exact hx
set_option maxHeartbeats 1000000 in
theorem allF_any {B fb mb M:Nat} {L:List ByteArray} {lv:Value} (A:Option Addr) (c:Nat) (vs:List ByteArray) (w:World) (h:FdSt B w fb mb L lv) (hv:SlRep 1 M RNm w (.slice A vs.length c) vs) (hM:M≤9223372036854775807) (hs:∀ v ∈ vs,v.size≤140737488351232) :
    Calls Tryz.prog 249 #[.pointer (some ⟨fb,0,none⟩),.slice A vs.length c] w fun e w' => e = .returned (.bool (allIn L vs))∧w'=w:=by
 obtain ⟨b,hb⟩:∃ b,allIn L vs=b:=⟨_,rfl⟩
 rw [hb];replace hb:=Hh hb;obtain ⟨_,_,_,hl1,hl2⟩:=hv.form;have hxl:vs.length≤9223372036854775807:=by omega
 have H:=Hh h;have HV:=Hh hv;have HS:=Hh hs;clear h hv hs hl1 hl2;go_enter Tryz.func249,Tryz.ntmps249;go_wp2_with fail;go_loopw [9] (fun i wr => ∃ k:Nat,k≤vs.length∧i = .int .i64 k∧Hid (wr=w)∧Hid (∀ y ∈ vs.take k,y ∈ L)) (fun i _ => vs.length - (intOf i).toNat)
 case atStart => exact ⟨0,Nat.zero_le _,rfl,Hh rfl,Hh (fun y hy => by simp at hy)⟩
 case round =>
  obtain ⟨k,hk,rfl,hw,hA⟩:=hrel
  by_cases hlt:k<vs.length
  ·have hltI:(k:Int)<vs.length:=by omega
   have e0:(0:Int)≤k∧(k:Int)<vs.length:=by omega
   obtain ⟨b',off,rfl,y0⟩:=nm_at HV.out hlt;rw [← hw.out] at y0;have hmem:=Hh (List.getElem_mem hlt);have HT:=Hh (fun hx => allIn_take hlt hA.out hx);have HC:=Hh (hasF_any vs[k] wr (by rw [hw.out];exact H.out) (HS.out _ hmem.out));generalize vs[k]=v at *
   by_cases e:v ∈ L
   ·rw [decide_eq_true e] at HC;have HA:=Hh (HT.out e);clear HT e;go_wp2_with fail;refine HC.out.mono ?_;rintro e w3 ⟨rfl,hw3⟩;have hw4:=Hh (hw3.trans hw.out);clear hw3;go_wp2;go_roundw
    case rel => exact ⟨k+1,by omega,by go_num,hw4,HA⟩
    case measure => simp [intOf] <;> omega
   ·rw [decide_eq_false e] at HC
    obtain rfl:b=false:=by
     rw [← hb.out];exact List.all_eq_false.2 ⟨v,hmem.out,by simpa using e⟩
    clear HT e;go_wp2_with fail;refine HC.out.mono ?_;rintro e w3 ⟨rfl,hw3⟩;have hw4:=Hh (hw3.trans hw.out);clear hw3;go_wp2;go_ret;exact ⟨rfl,hw4.out⟩
  ·obtain rfl:k=vs.length:=by omega
   rw [List.take_length] at hA
   obtain rfl:b=true:=by
    rw [← hb.out];exact List.all_eq_true.2 fun x hx => by simpa using hA.out x hx
   go_wp2;go_ret;exact ⟨rfl,hw.out⟩
set_option maxHeartbeats 2000000 in
set_option maxRecDepth 100000 in
theorem addF_any {B fb mb M:Nat} {L:List ByteArray} {lv:Value} (A:Option Addr) (c:Nat) (vs:List ByteArray) (w:World) (h:FdSt B w fb mb L lv) (hB:B≤w.heap.size) (hv:SlRep 1 M RNm w (.slice A vs.length c) vs) (hM:M≤9223372036854775807) (hs:∀ v ∈ vs,v.size≤140737488351232)
    (hsep:∀ a,A=some a→¬ ffoot fb mb lv a.block) (hL:L.length+vs.length≤10000000000) :
    Calls Tryz.prog 271 #[.pointer (some ⟨fb,0,none⟩),.slice A vs.length c] w fun e w' => (∃ u,e = .returned u)∧∃ lv',FdSt B w' fb mb (vs.foldl addF L) lv'∧Only (fun k => ffoot fb mb lv k∨w.heap.size≤k) w w'∧(∀ k,lv'.ownBlock=some k→lv.ownBlock=some k∨w.heap.size≤k):=by
 obtain ⟨_,_,_,hl1,hl2⟩:=hv.form;have hxl:vs.length≤9223372036854775807:=by omega
 have H:=Hh h;have HV:=Hh hv;have HS:=Hh hs;have HP:=Hh hsep;have HN:=Hh hL;have HB:=Hh hB;clear h hv hs hl1 hl2 hsep hL hB;go_enter Tryz.func271,Tryz.ntmps271;go_wp2_with fail;go_loopw [8] (fun i wr => ∃ k:Nat,k≤vs.length∧i = .int .i64 k∧Hid (∃ lv',FdSt B wr fb mb ((vs.take k).foldl addF L) lv'∧Only (fun k => ffoot fb mb lv k∨w.heap.size≤k) w wr∧(∀ k,lv'.ownBlock=some k→lv.ownBlock=some k∨w.heap.size≤k))) (fun i _ => vs.length - (intOf i).toNat)
 case atStart => exact ⟨0,Nat.zero_le _,rfl,Hh ⟨lv,H.out,Only.refl _,fun k hk => .inl hk⟩⟩
 case round =>
  obtain ⟨k,hk,rfl,hI⟩:=hrel
  by_cases hlt:k<vs.length
  ·have hltI:(k:Int)<vs.length:=by omega
   have e0:(0:Int)≤k∧(k:Int)<vs.length:=by omega
   obtain ⟨lv1,h1,hO,hq⟩:=hI.out;obtain ⟨b',off,rfl,y0⟩:=nm_at HV.out hlt;have hbl:=lt_of_cell y0
   replace y0:=hO.cell y0 (by
    rintro (h9|h9)
    ·exact HP.out _ rfl h9
    ·have h9:w.heap.size≤b':=h9;have hbl:b'<w.heap.size:=hbl;omega)
   have hnx:=Hh (show (vs.take (k+1)).foldl addF L=addF ((vs.take k).foldl addF L) vs[k] by rw [List.take_succ_eq_append_getElem hlt,List.foldl_append];rfl);have hlen:=foldF_len (vs.take k) L;rw [List.length_take] at hlen;have hvs:=HS.out _ (List.getElem_mem hlt);have HC:=Hh (hasF_any vs[k] wr h1 hvs);generalize vs[k]=v at *;have hN:=HN.out;have hlen2:((vs.take k).foldl addF L).length≤10000000000:=by omega
   clear hlen hN hbl hI;obtain ⟨L1,hL1⟩:∃ L1,(vs.take k).foldl addF L=L1:=⟨_,rfl⟩
   rw [hL1] at h1 hnx HC hlen2;clear hL1
   by_cases e:v ∈ L1
   ·rw [decide_eq_true e] at HC;have HA:=Hh (show ∃ lv',FdSt B wr fb mb ((vs.take (k+1)).foldl addF L) lv'∧Only (fun k => ffoot fb mb lv k∨w.heap.size≤k) w wr∧(∀ k,lv'.ownBlock=some k→lv.ownBlock=some k∨w.heap.size≤k) from ⟨lv1,by rw [hnx.out];unfold addF;rw [if_pos e];exact h1,hO,hq⟩);clear e h1 hO hq hlen2 hvs;obtain ⟨wo,hwo⟩:∃ x,x=wr:=⟨_,rfl⟩
    go_wp2_with fail;refine HC.out.mono ?_;rintro e w3 ⟨rfl,hw3⟩;rw [← hw3] at HA;clear hw3 hwo HC y0;go_wp2;go_roundw
    case rel => exact ⟨k+1,by omega,by go_num,HA⟩
    case measure => simp [intOf] <;> omega
   ·rw [decide_eq_false e] at HC
    have hnk:∀ q ∈ numE 0 L1,q.1≠v:=fun q hq e' => e (by
     have h9:q.1 ∈ (numE 0 L1).map (·.1):=List.mem_map.2 ⟨q,hq,rfl⟩;rw [numE_keys,e'] at h9;exact h9)
    have HNK:=Hh hnk;have HE:=Hh e;have hN9:=Hh hlen2;have hvs9:=Hh hvs;have HO:=Hh hO;have HQ:=Hh hq;have H1:=Hh h1;have hA1:=Hh (show addF L1 v=L1++[v] by unfold addF;rw [if_neg e]);clear e hnk hlen2 hvs hO hq h1;go_wp2_with fail;refine HC.out.mono ?_;rintro e w3 ⟨rfl,hw3⟩;rw [← hw3] at H1 HO;clear hw3 HC y0;have y3:=cell_at H1.out.cell 0 _ rfl;have hBw:=HO.out.size;have hB9:=HB.out;go_wp2_with (first|(at_builtin;refine wpList_append_LB (R:=RNm) (B:=B) (M:=1) (xs:=L1) (ys:=[v]) (e:=9) (by go_simp) _ _ tVl' rfl Tryz.underlying76 (.string ⟨#[]⟩) 16 infoNm rfl (by decide) RNm.one RNm.keeps rfl rfl (H1.out.list.fut RNm.stays (Fut.alloc _ _)) (nmOne _ _ _) ?l3 ?l4 ?b3 ?k3))
    case l3 => have:=hN9.out;simp [maxLen];omega
    case l4 => have:=hN9.out;simp;omega
    case b3 => simp;omega
    case k3 =>
    intro v' w' o' g' sn';have F0:=Fut.alloc w3 (.cells #[.string v] 9);obtain ⟨c1,c2,m2,c3,c4,O2,hK⟩:=(H1.out.fut F0).grow o' g' sn' hvs9.out;obtain ⟨A8,c8,rfl,hc8,_⟩:=o'.rep.form;rw [List.length_append,List.length_singleton] at hc8 c3 c4 m2 hK O2 ⊢;obtain ⟨w5,hw5⟩:∃ W,w'.setCell ⟨fb,0,none⟩ (.slice A8 (L1.length+1) c8)=W:=⟨_,rfl⟩
    rw [hw5] at c3 c4 m2 hK O2;replace hK:=Hh hK
    have o8:∀ k,(Value.slice A8 (L1.length+1) c8).ownBlock=some k→lv.ownBlock=some k∨w.heap.size≤k:=fun k hk => by
     rcases sn' with e|e
     ·refine HQ.out k ?_;rw [← e,List.length_append,List.length_singleton];exact hk
     ·right
      have h9:=e k (by rw [List.length_append,List.length_singleton];exact hk);have:=F0.size;omega
    have OA:Only (fun k => ffoot fb mb lv k∨w.heap.size≤k) w w5:=(HO.out.trans (Only.fut F0)).trans (O2.mono fun k _ hk => by
     rcases hk with hk|hk|hk
     ·exact .inl (.inl hk)
     ·exact .inl (.inr (.inl hk))
     ·rcases HQ.out k hk with h9|h9
      ·exact .inl (.inr (.inr h9))
      ·exact .inr h9)
    replace OA:=Hh OA;replace o8:=Hh o8;clear O2 F0 HO;have hi2:=infoNms;go_wp2_with (first|(refine wpList_store_1 (wanted_none rfl _) _ _ rfl rfl rfl hi2 rfl c1 c2 hw5 ?_));clear hw5 c1 c2 g' sn' o' y3;refine wp_graph 10 [.d,.d,.d,.d,.d,.d,.d,.d,.d,.d] (by kernel_rfl) (by kernel_rfl) (by kernel_rfl) ?_;simp only [takS,Exs]
    iterate 10 apply Exists.intro
    apply Run.valG (wanted_none rfl _)
    ·intro w1 h1 hk;go_simp;rfl
    simp only [actS];apply Run.valG (wanted_none rfl _)
    ·intro w1 h1 hk;have q1:=h1.cell c3;have q2:=h1.cell c4;have hcw:=fun b o => Below.cell (p:=⟨b,o,none⟩) h1;go_simp;rfl
    simp only [actS];apply Run.valG (wanted_none rfl _)
    ·intro w1 h1 hk;go_simp;rfl
    simp only [actS];apply Run.valG (wanted_none rfl _)
    ·intro w1 h1 hk;have q1:=h1.cell c3;have q2:=h1.cell c4;have hcw:=fun b o => Below.cell (p:=⟨b,o,none⟩) h1;go_simp;rfl
    simp only [actS]
    iterate 2
     apply Run.valG (wanted_none rfl _)
     ·intro w1 h1 hk;go_simp;rfl
     simp only [actS]
    apply Run.valG (wanted_none rfl _)
    ·intro w1 h1 hk;have q1:=h1.cell c3;have q2:=h1.cell c4;have hcw:=fun b o => Below.cell (p:=⟨b,o,none⟩) h1;go_simp;rfl
    simp only [actS];apply Run.valG (wanted_none rfl _)
    ·intro w1 h1 hk;go_simp;rfl
    simp only [actS]
    iterate 2
     apply Run.valG (wanted_none rfl _)
     ·intro w1 h1 hk;have q1:=h1.cell c3;have q2:=h1.cell c4;have hcw:=fun b o => Below.cell (p:=⟨b,o,none⟩) h1;go_simp;rfl
     simp only [actS]
    apply Run.done;intro w2 h2 hk;clear hk;have F5:=(Fut.drew _).trans h2;have hOK2:=H1.out.ok;refine wpList_mapNum (wanted_none rfl _) _ _ _ rfl rfl rfl rfl (m2.fut F5) hOK2 (Nat.le_trans hvs9.out (by unfold maxLen;omega)) HNK.out ?_;intro w6 m6 g6;replace m6:MapE strV w6 mb (numE 0 (L1++[v])):=by rw [numE_snoc,show ((0+L1.length+1:Nat):Int)=(L1.length:Int)+1 by omega];exact m6
    have HV':=hK.out w2 w6 F5 m6 g6;have O6:Only (fun k => ffoot fb mb lv k∨w.heap.size≤k) w w6:=OA.out.trans ((Only.fut F5).trans (Only.grown g6 fun k hk => by injection hk with hk;exact .inl (.inr (.inl hk.symm))));have HA:=Hh (show ∃ lv',FdSt B w6 fb mb ((vs.take (k+1)).foldl addF L) lv'∧Only (fun k => ffoot fb mb lv k∨w.heap.size≤k) w w6∧(∀ k,lv'.ownBlock=some k→lv.ownBlock=some k∨w.heap.size≤k) from ⟨_,by rw [hnx.out,hA1.out];exact HV',O6,o8.out⟩);clear HV' O6 m6 g6 F5 hOK2 m2 c3 c4;go_wp2;go_roundw
    case rel => exact ⟨k+1,by omega,by go_num,HA⟩
    case measure => simp [intOf] <;> omega
  ·obtain rfl:k=vs.length:=by omega
   rw [List.take_length] at hI;go_wp2;go_end0;exact ⟨⟨_,rfl⟩,hI.out⟩
set_option maxHeartbeats 1000000 in
theorem loneT_any (x:Ex) (A:Option Addr) (c:Nat) (w:World):Calls Tryz.prog 273 #[.agg (x.cs (.slice A x.kids.length c)).toArray] w fun e w' => e = .returned (.string x.lone)∧Fut w w':=by
 obtain ⟨s,hs⟩:∃ s,x.lone=s:=⟨_,rfl⟩
 rw [hs];unfold Ex.lone at hs;unfold Ex.cs;generalize x.kids.length=n at *;generalize x.op=o at *;generalize x.t=t at *;have f0:=Fut.alloc w (.cells #[.int .i8 o,.string t.v,.int .i8 t.x.k,.int .i64 t.x.n,.string t.x.s,.slice A n c] 118)
 by_cases h1:o=0
 rotate_left
 ·rw [if_neg (fun h => h1 h.1)] at hs;subst hs;go_enter Tryz.func273,Tryz.ntmps273;go_wp2;go_ret;exact ⟨rfl,f0⟩
 subst h1
 by_cases h2:n=0
 rotate_left
 ·rw [if_neg (fun h => h2 h.2.1)] at hs;subst hs;have h3:(n:Int) > 0:=by omega
  have h4:0<n:=by omega
  go_enter Tryz.func273,Tryz.ntmps273;go_wp2;go_ret;exact ⟨rfl,f0⟩
 subst h2
 by_cases h5:t.v.toList=[95]
 ·rw [if_neg (fun h => h.2.2 h5)] at hs;subst hs;go_enter Tryz.func273,Tryz.ntmps273;go_wp2;go_ret;exact ⟨rfl,f0⟩
 ·rw [if_pos ⟨rfl,rfl,h5⟩] at hs;subst hs;have h6:(t.v.toList == [95])=false:=by rw [beq_eq_false_iff_ne];exact h5
  go_enter Tryz.func273,Tryz.ntmps273;go_wp2;go_ret;exact ⟨rfl,f0⟩
def Eqn.byL (q:Eqn) (L:List ByteArray):Prop:=q.l.toList≠[]∧q.l ∉ L∧allIn L q.rs=true
def Eqn.byR (q:Eqn) (L:List ByteArray):Prop:=q.r.toList≠[]∧q.r ∉ L∧allIn L q.ls=true
theorem Eqn.takes_l {q:Eqn} {L:List ByteArray} (h:q.byL L):q.takes L=(true,L++[q.l]):=if_pos h
theorem Eqn.takes_r {q:Eqn} {L:List ByteArray} (h:¬ q.byL L) (h':q.byR L):q.takes L=(true,L++[q.r]):=by
 unfold Eqn.takes;exact (if_neg h).trans (if_pos h')
theorem Eqn.takes_no {q:Eqn} {L:List ByteArray} (h:¬ q.byL L) (h':¬ q.byR L):q.takes L=(false,L):=by
 unfold Eqn.takes;exact (if_neg h).trans (if_neg h')
theorem addF1 {L:List ByteArray} {v:ByteArray} (h:v ∉ L):[v].foldl addF L=L++[v]:=if_neg h
theorem by3 {a:Prop} [Decidable a] {d1 d3:Bool} (h:¬ (a∧d1=false∧d3=true)):¬ a∨(a∧d1=true)∨(a∧d1=false∧d3=false):=by
 by_cases ha:a <;> cases d1 <;> cases d3 <;> simp_all
set_option maxHeartbeats 4000000 in
set_option maxRecDepth 100000 in
theorem takeF_any {B fb mb M:Nat} {L:List ByteArray} {lv:Value} (q:Eqn) (Al Ar:Option Addr) (cl cr:Nat) (w:World) (h:FdSt B w fb mb L lv) (hB:B≤w.heap.size) (hls:SlRep 1 M RNm w (.slice Al q.ls.length cl) q.ls) (hrs:SlRep 1 M RNm w (.slice Ar q.rs.length cr) q.rs) (hM:M≤9223372036854775807)
    (s1:q.l.size≤140737488351232) (s2:q.r.size≤140737488351232) (s3:∀ v ∈ q.ls,v.size≤140737488351232) (s4:∀ v ∈ q.rs,v.size≤140737488351232) (hL:L.length≤1000000000) :
    Calls Tryz.prog 276 #[.pointer (some ⟨fb,0,none⟩),.agg #[.string q.l,.string q.r,.slice Al q.ls.length cl,.slice Ar q.rs.length cr]] w fun e w' => e = .returned (.bool (q.takes L).1)∧∃ lv',FdSt B w' fb mb (q.takes L).2 lv'∧Only (fun k => ffoot fb mb lv k∨w.heap.size≤k) w w'∧(∀ k,lv'.ownBlock=some k→lv.ownBlock=some k∨w.heap.size≤k):=by
 obtain ⟨w1,hw1⟩:∃ W,w.alloc (.cells #[.string q.l,.string q.r,.slice Al q.ls.length cl,.slice Ar q.rs.length cr] 381)=W:=⟨_,rfl⟩
 have f0:=Fut.alloc w (.cells #[.string q.l,.string q.r,.slice Al q.ls.length cl,.slice Ar q.rs.length cr] 381);rw [hw1] at f0;have h1:=h.fut f0;have HasL:=Hh (hasF_any q.l w1 h1 s1);have HasR:=Hh (hasF_any q.r w1 h1 s2);have AllL:=Hh (allF_any Al cl q.ls w1 h1 (hls.fut RNm.stays f0) hM s3);have AllR:=Hh (allF_any Ar cr q.rs w1 h1 (hrs.fut RNm.stays f0) hM s4)
 have hlow:=fun k (hk:ffoot fb mb lv k) => show k<w.heap.size from by
  rcases hk with rfl|rfl|hk
  ·exact (Array.getElem?_eq_some_iff.1 h.cell).1
  ·exact h.map.lt
  ·exact (h.list.block _ hk).2
 have hf0:=f0.size
 have Add:=fun (v:ByteArray) (hv:v.size≤140737488351232) => addF_any (M:=1) (some ⟨w1.heap.size,0,none⟩) 1 [v] (w1.alloc (.cells #[.string v] 9)) (h1.fut (Fut.alloc _ _)) (by rw [show ∀ o,(w1.alloc o).heap.size=w1.heap.size+1 from fun o => by simp];omega) (nmOne w1 v 9) (by decide) (fun x hx => by rw [List.mem_singleton] at hx;subst hx;exact hv) (fun a ha => by
  injection ha with ha
  subst ha;intro h9;have h10:w1.heap.size<w.heap.size:=hlow _ h9;omega) (by rw [List.length_singleton];omega)
 have fin:∀ (v:ByteArray) (w':World) (lv':Value),v ∉ L→FdSt B w' fb mb ([v].foldl addF L) lv'→Only (fun k => ffoot fb mb lv k∨(w1.alloc (.cells #[.string v] 9)).heap.size≤k) (w1.alloc (.cells #[.string v] 9)) w'→(∀ k,lv'.ownBlock=some k→lv.ownBlock=some k∨(w1.alloc (.cells #[.string v] 9)).heap.size≤k) →
     FdSt B w' fb mb (L++[v]) lv'∧Only (fun k => ffoot fb mb lv k∨w.heap.size≤k) w w'∧(∀ k,lv'.ownBlock=some k→lv.ownBlock=some k∨w.heap.size≤k):=fun v w' lv' hv g1 g2 g3 => by
  have hsz:w.heap.size≤(w1.alloc (.cells #[.string v] 9)).heap.size:=by rw [show ∀ o,(w1.alloc o).heap.size=w1.heap.size+1 from fun o => by simp];omega
  refine ⟨by rw [← addF1 hv];exact g1,(Only.fut (f0.trans (Fut.alloc _ _))).trans (g2.mono fun k _ hk => ?_),fun k hk => ?_⟩
  ·rcases hk with hk|hk
   ·exact .inl hk
   ·exact .inr (by omega)
  ·rcases g3 k hk with hk|hk
   ·exact .inl hk
   ·exact .inr (by omega)
 have none9:FdSt B w1 fb mb L lv∧Only (fun k => ffoot fb mb lv k∨w.heap.size≤k) w w1∧(∀ k,lv.ownBlock=some k→lv.ownBlock=some k∨w.heap.size≤k):=⟨h1,Only.fut f0,fun k hk => .inl hk⟩
 replace fin:=Hh fin;replace none9:=Hh none9;replace Add:=Hh Add;clear h1 h hls hrs hlow hf0 f0 hL hB;have hb0:=heap_alloc_new w (.cells #[.string q.l,.string q.r,.slice Al q.ls.length cl,.slice Ar q.rs.length cr] 381);rw [hw1] at hb0;have y0:=cell_at hb0 0 (.string q.l) rfl;have y1:=cell_at hb0 1 (.string q.r) rfl;have y2:=cell_at hb0 2 (.slice Al q.ls.length cl) rfl;have y3:=cell_at hb0 3 (.slice Ar q.rs.length cr) rfl;clear hb0;have TL:=@Eqn.takes_l q L;have TR:=@Eqn.takes_r q L;have TN:=@Eqn.takes_no q L;simp only [Eqn.byL,Eqn.byR] at TL TR TN;obtain ⟨rr,hrr⟩:∃ r,q.takes L=r:=⟨_,rfl⟩
 rw [hrr] at TL TR TN ⊢;clear hrr;obtain ⟨ql,qr,qls,qrs⟩:=q;dsimp only at *;obtain ⟨d1,hd1⟩:∃ d,decide (ql ∈ L)=d:=⟨_,rfl⟩
 obtain ⟨d2,hd2⟩:∃ d,decide (qr ∈ L)=d:=⟨_,rfl⟩
 rw [hd1] at HasL;rw [hd2] at HasR;have hm1:ql ∉ L↔d1=false:=by rw [← hd1];simp
 have hm2:qr ∉ L↔d2=false:=by rw [← hd2];simp
 have HA1:=Hh (Add.out ql s1);have HA2:=Hh (Add.out qr s2);have fin1:=Hh (fin.out ql);have fin2:=Hh (fin.out qr);rw [hm1] at TL TR TN fin1;rw [hm2] at TR TN fin2;rw [List.length_singleton] at HA1 HA2;clear hd1 hd2 hm1 hm2 Add fin;generalize allIn L qls=d4 at *;generalize allIn L qrs=d3 at *;generalize qls.length=nl at *;generalize qrs.length=nr at *
 by_cases hQ:ql.toList≠[]∧d1=false∧d3=true
 ·obtain rfl:=TL hQ;obtain ⟨e1,rfl,rfl⟩:=hQ;have e1b:(ql.toList == [])=false:=by rw [beq_eq_false_iff_ne];exact e1
  clear TL TR TN;go_enter Tryz.func276,Tryz.ntmps276;go_wp2_with fail;refine HasL.out.mono ?_;rintro e w3 ⟨rfl,rfl⟩;go_wp2_with fail;refine AllR.out.mono ?_;rintro e w3 ⟨rfl,rfl⟩;go_wp2_with fail;refine HA1.out.mono ?_;rintro e w3 ⟨⟨u,rfl⟩,lv',g1,g2,g3⟩;have HF:=Hh (fin1.out w3 lv' trivial g1 g2 g3);clear g1 g2 g3;go_wp2;go_ret;exact ⟨rfl,lv',HF.out⟩
 replace TR:=TR hQ;replace TN:=TN hQ;have hQ3:=by3 hQ;clear hQ TL
 by_cases hR:qr.toList≠[]∧d2=false∧d4=true
 ·obtain rfl:=TR hR;obtain ⟨e1,rfl,rfl⟩:=hR;have e1b:(qr.toList == [])=false:=by rw [beq_eq_false_iff_ne];exact e1
  clear TR TN;rcases hQ3 with hq|⟨hq,rfl⟩|⟨hq,rfl,rfl⟩
  ·replace hq:=Decidable.not_not.1 hq;go_enter Tryz.func276,Tryz.ntmps276;go_wp2_with fail;refine HasR.out.mono ?_;rintro e w3 ⟨rfl,rfl⟩;go_wp2_with fail;refine AllL.out.mono ?_;rintro e w3 ⟨rfl,rfl⟩;go_wp2_with fail;refine HA2.out.mono ?_;rintro e w3 ⟨⟨u,rfl⟩,lv',g1,g2,g3⟩;have HF:=Hh (fin2.out w3 lv' trivial g1 g2 g3);clear g1 g2 g3;go_wp2;go_ret;exact ⟨rfl,lv',HF.out⟩
  ·have e2b:(ql.toList == [])=false:=by rw [beq_eq_false_iff_ne];exact hq
   go_enter Tryz.func276,Tryz.ntmps276;go_wp2_with fail;refine HasL.out.mono ?_;rintro e w3 ⟨rfl,rfl⟩;go_wp2_with fail;refine HasR.out.mono ?_;rintro e w3 ⟨rfl,rfl⟩;go_wp2_with fail;refine AllL.out.mono ?_;rintro e w3 ⟨rfl,rfl⟩;go_wp2_with fail;refine HA2.out.mono ?_;rintro e w3 ⟨⟨u,rfl⟩,lv',g1,g2,g3⟩;have HF:=Hh (fin2.out w3 lv' trivial g1 g2 g3);clear g1 g2 g3;go_wp2;go_ret;exact ⟨rfl,lv',HF.out⟩
  ·have e2b:(ql.toList == [])=false:=by rw [beq_eq_false_iff_ne];exact hq
   go_enter Tryz.func276,Tryz.ntmps276;go_wp2_with fail;refine HasL.out.mono ?_;rintro e w3 ⟨rfl,rfl⟩;go_wp2_with fail;refine AllR.out.mono ?_;rintro e w3 ⟨rfl,rfl⟩;go_wp2_with fail;refine HasR.out.mono ?_;rintro e w3 ⟨rfl,rfl⟩;go_wp2_with fail;refine AllL.out.mono ?_;rintro e w3 ⟨rfl,rfl⟩;go_wp2_with fail;refine HA2.out.mono ?_;rintro e w3 ⟨⟨u,rfl⟩,lv',g1,g2,g3⟩;have HF:=Hh (fin2.out w3 lv' trivial g1 g2 g3);clear g1 g2 g3;go_wp2;go_ret;exact ⟨rfl,lv',HF.out⟩
 obtain rfl:=TN hR;have hR3:=by3 hR;clear hR TR TN HA1 HA2 fin1 fin2;rcases hQ3 with hq|⟨hq,rfl⟩|⟨hq,rfl,rfl⟩ <;> rcases hR3 with hr|⟨hr,rfl⟩|⟨hr,rfl,rfl⟩
 ·replace hq:=Decidable.not_not.1 hq;replace hr:=Decidable.not_not.1 hr;go_enter Tryz.func276,Tryz.ntmps276;go_wp2;go_ret;exact ⟨rfl,lv,none9.out⟩
 ·replace hq:=Decidable.not_not.1 hq;have e2b:(qr.toList == [])=false:=by rw [beq_eq_false_iff_ne];exact hr
  go_enter Tryz.func276,Tryz.ntmps276;go_wp2_with fail;refine HasR.out.mono ?_;rintro e w3 ⟨rfl,rfl⟩;go_wp2;go_ret;exact ⟨rfl,lv,none9.out⟩
 ·replace hq:=Decidable.not_not.1 hq;have e2b:(qr.toList == [])=false:=by rw [beq_eq_false_iff_ne];exact hr
  go_enter Tryz.func276,Tryz.ntmps276;go_wp2_with fail;refine HasR.out.mono ?_;rintro e w3 ⟨rfl,rfl⟩;go_wp2_with fail;refine AllL.out.mono ?_;rintro e w3 ⟨rfl,rfl⟩;go_wp2;go_ret;exact ⟨rfl,lv,none9.out⟩
 ·have e1b:(ql.toList == [])=false:=by rw [beq_eq_false_iff_ne];exact hq
  replace hr:=Decidable.not_not.1 hr;go_enter Tryz.func276,Tryz.ntmps276;go_wp2_with fail;refine HasL.out.mono ?_;rintro e w3 ⟨rfl,rfl⟩;go_wp2;go_ret;exact ⟨rfl,lv,none9.out⟩
 ·have e1b:(ql.toList == [])=false:=by rw [beq_eq_false_iff_ne];exact hq
  have e2b:(qr.toList == [])=false:=by rw [beq_eq_false_iff_ne];exact hr
  go_enter Tryz.func276,Tryz.ntmps276;go_wp2_with fail;refine HasL.out.mono ?_;rintro e w3 ⟨rfl,rfl⟩;go_wp2_with fail;refine HasR.out.mono ?_;rintro e w3 ⟨rfl,rfl⟩;go_wp2;go_ret;exact ⟨rfl,lv,none9.out⟩
 ·have e1b:(ql.toList == [])=false:=by rw [beq_eq_false_iff_ne];exact hq
  have e2b:(qr.toList == [])=false:=by rw [beq_eq_false_iff_ne];exact hr
  go_enter Tryz.func276,Tryz.ntmps276;go_wp2_with fail;refine HasL.out.mono ?_;rintro e w3 ⟨rfl,rfl⟩;go_wp2_with fail;refine HasR.out.mono ?_;rintro e w3 ⟨rfl,rfl⟩;go_wp2_with fail;refine AllL.out.mono ?_;rintro e w3 ⟨rfl,rfl⟩;go_wp2;go_ret;exact ⟨rfl,lv,none9.out⟩
 ·have e1b:(ql.toList == [])=false:=by rw [beq_eq_false_iff_ne];exact hq
  replace hr:=Decidable.not_not.1 hr;go_enter Tryz.func276,Tryz.ntmps276;go_wp2_with fail;refine HasL.out.mono ?_;rintro e w3 ⟨rfl,rfl⟩;go_wp2_with fail;refine AllR.out.mono ?_;rintro e w3 ⟨rfl,rfl⟩;go_wp2;go_ret;exact ⟨rfl,lv,none9.out⟩
 ·have e1b:(ql.toList == [])=false:=by rw [beq_eq_false_iff_ne];exact hq
  have e2b:(qr.toList == [])=false:=by rw [beq_eq_false_iff_ne];exact hr
  go_enter Tryz.func276,Tryz.ntmps276;go_wp2_with fail;refine HasL.out.mono ?_;rintro e w3 ⟨rfl,rfl⟩;go_wp2_with fail;refine AllR.out.mono ?_;rintro e w3 ⟨rfl,rfl⟩;go_wp2_with fail;refine HasR.out.mono ?_;rintro e w3 ⟨rfl,rfl⟩;go_wp2;go_ret;exact ⟨rfl,lv,none9.out⟩
 ·have e1b:(ql.toList == [])=false:=by rw [beq_eq_false_iff_ne];exact hq
  have e2b:(qr.toList == [])=false:=by rw [beq_eq_false_iff_ne];exact hr
  go_enter Tryz.func276,Tryz.ntmps276;go_wp2_with fail;refine HasL.out.mono ?_;rintro e w3 ⟨rfl,rfl⟩;go_wp2_with fail;refine AllR.out.mono ?_;rintro e w3 ⟨rfl,rfl⟩;go_wp2_with fail;refine HasR.out.mono ?_;rintro e w3 ⟨rfl,rfl⟩;go_wp2_with fail;refine AllL.out.mono ?_;rintro e w3 ⟨rfl,rfl⟩;go_wp2;go_ret;exact ⟨rfl,lv,none9.out⟩
abbrev tEq:TypeId:=381
abbrev tRing:TypeId:=376
abbrev tEqs:TypeId:=374
def Eqn.ok (q:Eqn):Prop:=q.l.size≤140737488351232∧q.r.size≤140737488351232∧(∀ v ∈ q.ls,v.size≤140737488351232)∧(∀ v ∈ q.rs,v.size≤140737488351232)
def REq (lv:Value) (w:World) (cs:List Value) (q:Eqn):Prop :=
 ∃ u v,cs=[.string q.l,.string q.r,u,v]∧q.ok∧Nms 0 w u q.ls∧Nms 0 w v q.rs∧(∀ k,u.ownBlock=some k→lv.ownBlock≠some k)∧(∀ k,v.ownBlock=some k→lv.ownBlock≠some k)
theorem REq.stays {lv:Value}:Stays (REq lv):=fun _ _ _ _ hf ⟨u,v,h1,h2,h3,h4,h5⟩ => ⟨u,v,h1,h2,h3.fut RNm.stays hf,h4.fut RNm.stays hf,h5⟩
theorem REq.keeps {lv:Value}:Keeps tEq (REq lv):=fun w w' row cs x ⟨u,v,h1,h2,h3,h4,h5⟩ hg ht =>
 ⟨u,v,h1,h2,OwnL.kept h3 (fun _ _ h => h) hg ht (by decide),OwnL.kept h4 (fun _ _ h => h) hg ht (by decide),h5⟩
theorem REq.one {lv:Value}:∀ (w:World) cs x,REq lv w cs x→∀ u ∈ cs,u.oneCell'=true:=fun w cs x ⟨a,b,h1,_,h3,h4,_⟩ u hu => by
 obtain ⟨_,_,rfl,_⟩:=h3.rep.form;obtain ⟨_,_,rfl,_⟩:=h4.rep.form;subst h1;simp only [List.mem_cons,List.not_mem_nil,or_false] at hu;rcases hu with rfl|rfl|rfl|rfl <;> rfl
theorem infoEq:(Tryz.prog.info? 381).map (fun i => (i.zero,i.size,i.bytes))=some (some (.agg #[.string ⟨#[]⟩,.string ⟨#[]⟩,.slice none 0 0,.slice none 0 0]),4,80):=by kernel_rfl
theorem infoEqs:(Tryz.prog.info? 374).map (·.size)=some 1:=by kernel_rfl
theorem slOne {α:Type} {sz:Nat} {R:World→List Value→α→Prop} (w:World) (cs:List Value) (x:α) (e:TypeId) (hl:cs.length=sz) (h:R (w.alloc (.cells cs.toArray e)) cs x):SlRep sz 1 R (w.alloc (.cells cs.toArray e)) (.slice (some ⟨w.heap.size,0,none⟩) 1 1) [x] :=
 ⟨_,1,rfl,Nat.le_refl _,Nat.le_refl _,fun i y hy => by
  have hi:i=0:=by
   have:=(List.getElem?_eq_some_iff.1 hy).1;simp at this;omega
  subst hi;simp at hy;subst hy;refine ⟨w.heap.size,0,cs,rfl,hl,fun j c hj => ?_,h⟩;rw [show 0+(0 * sz+j)=j by omega];have h0:=heap_alloc_new w (.cells cs.toArray e);simp only [World.cell?,h0];simpa using hj⟩
theorem FdSt.off {B fb mb:Nat} {w:World} {L:List ByteArray} {lv:Value} (h:FdSt B w fb mb L lv) {k:Nat} {arr:Array Value} {t:TypeId} (hk:w.heap[k]?=some (.cells arr t (0,0))) (h1:t≠tFd) (h2:t≠9):¬ ffoot fb mb lv k:=by
 rintro (e|e|e)
 ·rw [e,h.cell] at hk;injection hk with hk
  injection hk with _ hk
  exact h1 hk.symm
 ·exact map_ne h.map hk e.symm
 ·obtain ⟨arr',h3⟩:=h.list.typed k e;rw [hk] at h3;injection h3 with h3
  injection h3 with _ h3
  exact h2 h3
theorem FdSt.lt {B fb mb:Nat} {w:World} {L:List ByteArray} {lv:Value} (h:FdSt B w fb mb L lv):∀ k,ffoot fb mb lv k→k<w.heap.size:=by
 rintro k (rfl|rfl|hk)
 ·exact (Array.getElem?_eq_some_iff.1 h.cell).1
 ·exact h.map.lt
 ·exact (h.list.block _ hk).2
theorem REq.move {B fb mb:Nat} {w w':World} {L:List ByteArray} {lv lv':Value} {cs:List Value} {q:Eqn} (h:FdSt B w fb mb L lv) (hq:REq lv w cs q) (hO:Only (fun k => ffoot fb mb lv k∨w.heap.size≤k) w w') (hlv:∀ k,lv'.ownBlock=some k→lv.ownBlock=some k∨w.heap.size≤k):REq lv' w' cs q:=by
 obtain ⟨u,v,h1,h2,h3,h4,h5,h6⟩:=hq
 have go:∀ (x:Value) (xs:List ByteArray),Nms 0 w x xs→(∀ k,x.ownBlock=some k→lv.ownBlock≠some k)→Nms 0 w' x xs∧(∀ k,x.ownBlock=some k→lv'.ownBlock≠some k):=fun x xs g1 g2 => by
  refine ⟨g1.only (fun _ _ h => h) hO fun k hk h9 => ?_,fun k hk h9 => ?_⟩
  ·obtain ⟨arr,g3⟩:=g1.typed k hk;rcases h9 with (e|e|e)|e
   ·rw [e,h.cell] at g3;injection g3 with g3
    injection g3 with _ g3
    exact absurd g3 (by decide)
   ·exact map_ne h.map g3 e.symm
   ·exact g2 k hk e
   ·have:=(g1.block k hk).2;omega
  ·rcases hlv k h9 with e|e
   ·exact g2 k hk e
   ·have:=(g1.block k hk).2;omega
 obtain ⟨a1,a2⟩:=go u _ h3 h5;obtain ⟨b1,b2⟩:=go v _ h4 h6;exact ⟨u,v,h1,h2,a1,b1,a2,b2⟩
theorem eqs_move {B B' fb mb:Nat} {w w':World} {L:List ByteArray} {lv lv' wv:Value} {qs:List Eqn} (h:FdSt B w fb mb L lv) (hq:OwnL 4 B' tEq (REq lv) w wv qs) (hO:Only (fun k => ffoot fb mb lv k∨w.heap.size≤k) w w') (hlv:∀ k,lv'.ownBlock=some k→lv.ownBlock=some k∨w.heap.size≤k):OwnL 4 B' tEq (REq lv') w' wv qs:=by
 have h1:OwnL 4 B' tEq (fun _ cs x => REq lv w cs x) w wv qs:=hq.imp fun cs x hx => hx
 have h2:OwnL 4 B' tEq (fun _ cs x => REq lv w cs x) w' wv qs:=h1.only (fun _ _ h => h) hO fun k hk h9 => by
  rcases h9 with h9|h9
  ·obtain ⟨arr,g3⟩:=hq.typed k hk;exact h.off g3 (by decide) (by decide) h9
  ·have:=(hq.block k hk).2;omega
 exact h2.imp fun cs x hx => hx.move h hO hlv
theorem eq_at {lv:Value} {M:Nat} {w:World} {A:Option Addr} {n cap:Nat} {xs:List Eqn} (h:SlRep 4 M (REq lv) w (.slice A n cap) xs) {k:Nat} (hk:k<xs.length) :
    ∃ b off Al Ar cl cr,A=some ⟨b,off,none⟩∧REq lv w [.string (xs[k]).l,.string (xs[k]).r,.slice Al (xs[k]).ls.length cl,.slice Ar (xs[k]).rs.length cr] xs[k]∧w.cell? ⟨b,off+k * 4,none⟩=some (.string (xs[k]).l)∧w.cell? ⟨b,off+k * 4+1,none⟩=some (.string (xs[k]).r)∧w.cell? ⟨b,off+k * 4+2,none⟩=some (.slice Al (xs[k]).ls.length cl)∧w.cell? ⟨b,off+k * 4+3,none⟩=some (.slice Ar (xs[k]).rs.length cr):=by
 obtain ⟨A1,cap1,hv,_,_,h3⟩:=h;obtain ⟨b,off,cs,hA,hl,hc,u,v,hcs,g1,g2,g3,g4,g5⟩:=h3 k _ (List.getElem?_eq_getElem hk);injection hv with hv _ _
 obtain ⟨Al,cl,rfl,_⟩:=g2.rep.form;obtain ⟨Ar,cr,rfl,_⟩:=g3.rep.form;subst hcs;exact ⟨b,off,Al,Ar,cl,cr,hv.trans hA,⟨_,_,rfl,g1,g2,g3,g4,g5⟩,hc 0 _ rfl,hc 1 _ rfl,hc 2 _ rfl,hc 3 _ rfl⟩
def RingI (B:Nat) (w:World) (fb mb rb:Nat) (lv wv:Value) (qs:List Eqn) (W:World) (u:Value) (s:List Eqn×List ByteArray):Prop :=
 ∃ lv1,FdSt B W fb mb s.2 lv1∧OwnL 4 B tEq (REq lv1) W wv qs∧OwnL 4 w.heap.size tEq (REq lv1) W u s.1∧W.heap[rb]?=some (.cells #[wv] tRing (0,0))∧Only (fun k => ffoot fb mb lv k∨w.heap.size≤k) w W∧(∀ k,lv1.ownBlock=some k→lv.ownBlock=some k∨w.heap.size≤k)
theorem foldT_len:∀ (qs:List Eqn) (s:List Eqn×List ByteArray),(qs.foldl stepE s).2.length≤s.2.length+qs.length
 | [],s => by simp
 | q :: r,s => by
  rw [List.foldl_cons,List.length_cons];have h1:=foldT_len r (stepE s q)
  have h2:(stepE s q).2.length≤s.2.length+1:=by
   unfold stepE Eqn.takes
   repeat' split
   all_goals simp
  omega
theorem takeQ_any {B fb mb:Nat} {L:List ByteArray} {lv:Value} (q:Eqn) (Al Ar:Option Addr) (cl cr:Nat) (w:World) (h:FdSt B w fb mb L lv) (hB:B≤w.heap.size) (hq:REq lv w [.string q.l,.string q.r,.slice Al q.ls.length cl,.slice Ar q.rs.length cr] q) (hL:L.length≤1000000000) :
    Calls Tryz.prog 276 #[.pointer (some ⟨fb,0,none⟩),.agg #[.string q.l,.string q.r,.slice Al q.ls.length cl,.slice Ar q.rs.length cr]] w fun e w' => e = .returned (.bool (q.takes L).1)∧∃ lv',FdSt B w' fb mb (q.takes L).2 lv'∧Only (fun k => ffoot fb mb lv k∨w.heap.size≤k) w w'∧(∀ k,lv'.ownBlock=some k→lv.ownBlock=some k∨w.heap.size≤k):=by
 obtain ⟨u,v,hcs,⟨g1,g2,g3,g4⟩,g5,g6,_⟩:=hq;injection hcs with _ hcs
 injection hcs with _ hcs
 injection hcs with a1 hcs
 injection hcs with a2 _
 subst a1;subst a2;exact takeF_any q Al Ar cl cr w h hB g5.rep g6.rep (by unfold maxLen;omega) g1 g2 g3 g4 hL
theorem RingI.grow {B:Nat} {w w3 wa w':World} {fb mb rb:Nat} {lv lv3 wv u v':Value} {qs l1 l2:List Eqn} {T:List ByteArray} (g1:FdSt B w3 fb mb T lv3) (j1:OwnL 4 B tEq (REq lv3) w3 wv qs) (j2:OwnL 4 w.heap.size tEq (REq lv3) w3 u l1) (j3:w3.heap[rb]?=some (.cells #[wv] tRing (0,0)))
    (j4:Only (fun k => ffoot fb mb lv k∨w.heap.size≤k) w w3) (j5:∀ k,lv3.ownBlock=some k→lv.ownBlock=some k∨w.heap.size≤k) (f:Fut w3 wa) (o:OwnL 4 w.heap.size tEq (REq lv3) w' v' l2) (g:wa.grownBy w' u.ownBlock) (hwv:∀ k,wv.ownBlock=some k→k<w.heap.size) (hrb:rb<w.heap.size) :
    RingI B w fb mb rb lv wv qs w' v' (l2,T):=by
 have j2a:=j2.fut REq.stays f;have hO:Only (fun k => u.ownBlock=some k) wa w':=Only.grown g fun k hk => hk;refine ⟨lv3,(g1.fut f).only hO (fun k hk h9 => ?_),(j1.fut REq.stays f).apart (fun cs x hx => REq.keeps wa w' _ cs x hx g j2a.typed) g (fun k hk h9 => ?_),o,hO.keeps (f.block j3) (fun h9 => ?_),(j4.trans (Only.fut f)).trans (hO.mono fun k _ h9 => .inr (j2a.block k h9).1),j5⟩
 ·obtain ⟨arr,h3⟩:=j2a.typed k h9;exact (g1.fut f).off h3 (by decide) (by decide) hk
 ·have h1:=(j2a.block k hk).1;have h2:=hwv k h9;omega
 ·have h1:=(j2a.block rb h9).1;omega
set_option maxHeartbeats 4000000 in
set_option maxRecDepth 100000 in
theorem round_any {B fb mb rb:Nat} {L:List ByteArray} {lv wv:Value} (qs:List Eqn) (w:World) (h:FdSt B w fb mb L lv) (hr:w.heap[rb]?=some (.cells #[wv] tRing (0,0))) (hq:OwnL 4 B tEq (REq lv) w wv qs) (hB:B≤w.heap.size) (hL:L.length+qs.length≤1000000000) :
    Calls Tryz.prog 275 #[.pointer (some ⟨rb,0,none⟩),.func (.func 276) #[.pointer (some ⟨fb,0,none⟩)] #[]] w fun e w' => e = .returned (.bool (decide ((roundE qs L).1.length<qs.length)))∧∃ lv' wv',FdSt B w' fb mb (roundE qs L).2 lv'∧w'.heap[rb]?=some (.cells #[wv'] tRing (0,0))∧OwnL 4 B tEq (REq lv') w' wv' (roundE qs L).1∧Only (fun k => ffoot fb mb lv k∨k=rb∨w.heap.size≤k) w w':=by
 obtain ⟨A,c,rfl,hl1,hl2⟩:=hq.rep.form;have hwv:=Hh fun k hk => (hq.block k hk).2;have hrb:=Hh (Array.getElem?_eq_some_iff.1 hr).1;have HI:=Hh (show RingI B w fb mb rb lv (.slice A qs.length c) qs w (.slice none 0 0) ([],L) from ⟨lv,h,hq,OwnL.nil,hr,Only.refl _,fun k hk => .inl hk⟩);have y0:=cell_at hr 0 (.slice A qs.length c) rfl;have HL:=Hh hL;have HB:=Hh hB;have hlo:=Hh h.lt;have hqb:=Hh hq;have hql:qs.length≤1000000000:=by omega
 unfold roundE;clear h hr hq hl1 hl2 hL hB;go_enter Tryz.func275,Tryz.ntmps275;go_wp2_with fail;go_loopw [6,19] (fun u i wr => ∃ k:Nat,k≤qs.length∧i = .int .i64 k∧Hid (RingI B w fb mb rb lv (.slice A qs.length c) qs wr u ((qs.take k).foldl stepE ([],L)))) (fun _ i _ => qs.length - (intOf i).toNat)
 case atStart => exact ⟨0,Nat.zero_le _,rfl,HI⟩
 case round =>
  obtain ⟨k,hk,rfl,hI⟩:=hrel
  by_cases hlt:k<qs.length
  ·have hltI:(k:Int)<qs.length:=by omega
   have e0:(0:Int)≤k∧(k:Int)<qs.length:=by omega
   obtain ⟨lv1,i1,i2,i3,i4,i5,i6⟩:=hI.out;obtain ⟨b',off,Al,Ar,cl,cr,rfl,hE,u0,u1,u2,u3⟩:=eq_at i2.rep hlt;have hnx:=Hh (show (qs.take (k+1)).foldl stepE ([],L)=stepE ((qs.take k).foldl stepE ([],L)) qs[k] by rw [List.take_succ_eq_append_getElem hlt,List.foldl_append];rfl);have hlen:=foldT_len (qs.take k) ([],L);have hlen1:=foldE_len (qs.take k) ([],L);rw [List.length_take] at hlen hlen1;obtain ⟨q,hqd⟩:∃ q,q=qs[k]:=⟨_,rfl⟩
   rw [← hqd] at hE u0 u1 u2 u3 hnx;clear hqd hI;obtain ⟨s,hs⟩:∃ s,(qs.take k).foldl stepE ([],L)=s:=⟨_,rfl⟩
   rw [hs] at i1 i3 hnx hlen hlen1;clear hs;have hN:=HL.out
   have hsl:s.2.length≤1000000000:=by
    have:s.2.length≤L.length+min k qs.length:=hlen;omega
   have hsl1:s.1.length≤1000000000:=by
    have:s.1.length≤0+min k qs.length:=hlen1;omega
   clear hlen hlen1 hN
   -- the box
   obtain ⟨w1,hw1⟩:∃ W,W=wr.alloc (.cells #[.string q.l,.string q.r,.slice Al q.ls.length cl,.slice Ar q.rs.length cr] tEq):=⟨_,rfl⟩
   have f0:Fut wr w1:=by rw [hw1];exact Fut.alloc _ _
   have hsz:w1.heap.size=wr.heap.size+1:=by rw [hw1];simp
   have hbx:w1.heap[wr.heap.size]?=some (.cells #[.string q.l,.string q.r,.slice Al q.ls.length cl,.slice Ar q.rs.length cr] tEq (0,0)):=by rw [hw1];exact heap_alloc_new _ _
   have i1':=i1.fut f0;have hE':=REq.stays _ _ _ _ f0 hE;have hk5:=i5.size;have HC:=takeQ_any q Al Ar cl cr w1 i1' (by have:=HB.out;omega) hE' hsl;replace HC:=Hh HC
   have J:=Hh (fun (w3:World) (lv3:Value) (g1:FdSt B w3 fb mb (q.takes s.2).2 lv3) (g2:Only (fun k => ffoot fb mb lv1 k∨w1.heap.size≤k) w1 w3) (g3:∀ k,lv3.ownBlock=some k→lv1.ownBlock=some k∨w1.heap.size≤k) => show OwnL 4 B tEq (REq lv3) w3 (.slice (some ⟨b',off,none⟩) qs.length c) qs∧OwnL 4 w.heap.size tEq (REq lv3) w3 u6 s.1∧w3.heap[rb]?=some (.cells #[.slice (some ⟨b',off,none⟩) qs.length c] tRing (0,0))∧Only (fun k => ffoot fb mb lv k∨w.heap.size≤k) w w3∧(∀ k,lv3.ownBlock=some k→lv.ownBlock=some k∨w.heap.size≤k)∧w3.heap[wr.heap.size]?=some (.cells #[.string q.l,.string q.r,.slice Al q.ls.length cl,.slice Ar q.rs.length cr] tEq (0,0))∧REq lv3 w3 [.string q.l,.string q.r,.slice Al q.ls.length cl,.slice Ar q.rs.length cr] q from by
    refine ⟨eqs_move i1' (i2.fut REq.stays f0) g2 g3,eqs_move i1' (i3.fut REq.stays f0) g2 g3,g2.keeps (f0.block i4) (fun h9 => ?_),(i5.trans (Only.fut f0)).trans (g2.mono fun k hk9 h9 => ?_),fun k hk9 => ?_,g2.keeps hbx (fun h9 => ?_),hE'.move i1' g2 g3⟩
    ·rcases h9 with h9|h9
     ·exact i1'.off (f0.block i4) (by decide) (by decide) h9
     ·have:=(Array.getElem?_eq_some_iff.1 i4).1;omega
    ·rcases h9 with (h9|h9|h9)|h9
     ·exact .inl (.inl h9)
     ·exact .inl (.inr (.inl h9))
     ·rcases i6 k h9 with h10|h10
      ·exact .inl (.inr (.inr h10))
      ·exact .inr h10
     ·exact .inr (by omega)
    ·rcases g3 k hk9 with h9|h9
     ·exact i6 k h9
     ·exact .inr (by omega)
    ·rcases h9 with h9|h9
     ·exact i1'.off hbx (by decide) (by decide) h9
     ·omega)
   obtain ⟨d,hd⟩:∃ d,(q.takes s.2).1=d:=⟨_,rfl⟩
   rw [hd] at HC;have hA3:=i3.rep.form;obtain ⟨A6,c6,rfl,_,_⟩:=hA3;cases d
   ·have hst:=Hh (show stepE s q=(s.1++[q],(q.takes s.2).2) by unfold stepE;rw [if_neg (by rw [hd];decide)]);obtain ⟨T,hT⟩:∃ T,(q.takes s.2).2=T:=⟨_,rfl⟩
    rw [hT] at HC J hst;replace i3:=Hh i3;clear hd hT i1 i2 i4 i5 i6 i1' hE hE' hbx f0 hsz;rw [hw1] at HC;go_wp2_with fail;refine HC.out.mono ?_;rintro e w3 ⟨rfl,lv3,g1,g2,g3⟩;rw [← hw1] at g2 g3;obtain ⟨j1,j2,j3,j4,j5,j6,j7⟩:=J.out w3 lv3 g1 g2 g3;have x0:=cell_at j6 0 (.string q.l) rfl;have x1:=cell_at j6 1 (.string q.r) rfl;have x2:=cell_at j6 2 (.slice Al q.ls.length cl) rfl;have x3:=cell_at j6 3 (.slice Ar q.rs.length cr) rfl;have K:=Hh (And.intro g1 (And.intro j1 (And.intro j3 (And.intro j4 j5))));replace j2:=Hh j2;replace j7:=Hh j7;have hs3:=j4.size;clear g1 g2 g3 j1 j3 j4 j5 j6 HC J hw1;go_wp2_with (first|(at_builtin;refine wpList_append_LB (R:=REq lv3) (B:=w.heap.size) (M:=1) (xs:=s.1) (ys:=[q]) (e:=381) (by go_simp) _ _ tEqs rfl Tryz.underlying374 (.agg #[.string ⟨#[]⟩,.string ⟨#[]⟩,.slice none 0 0,.slice none 0 0]) 80 infoEq rfl (by decide) REq.one REq.keeps rfl rfl (j2.out.fut REq.stays (Fut.alloc _ _)) (slOne _ [.string q.l,.string q.r,.slice Al q.ls.length cl,.slice Ar q.rs.length cr] q _ rfl (REq.stays _ _ _ _ (Fut.alloc _ _) j7.out)) ?l3 ?l4 ?b3 ?k3))
    case l3 => simp [maxLen];omega
    case l4 => simp;omega
    case b3 => simp;omega
    case k3 =>
    intro v' w' o' g' sn';obtain ⟨g1,j1,j3,j4,j5⟩:=K.out
    have HA:=Hh (show RingI B w fb mb rb lv (.slice (some ⟨b',off,none⟩) qs.length c) qs w' v' ((qs.take (k+1)).foldl stepE ([],L)) from by
     rw [hnx.out,hst.out];exact RingI.grow g1 j1 j2.out j3 j4 j5 (Fut.alloc _ _) o' g' hwv.out hrb.out)
    clear o' g' sn' g1 j1 j3 j4 j5;go_wp2;go_roundw
    case rel => exact ⟨k+1,by omega,by go_num,HA⟩
    case measure => simp [intOf] <;> omega
   ·have hst:=Hh (show stepE s q=(s.1,(q.takes s.2).2) by unfold stepE;rw [if_pos hd]);obtain ⟨T,hT⟩:∃ T,(q.takes s.2).2=T:=⟨_,rfl⟩
    rw [hT] at HC J hst;clear hd hT i1 i2 i3 i4 i5 i6 i1' hE hE' hbx f0 hsz;rw [hw1] at HC;go_wp2_with fail;refine HC.out.mono ?_;rintro e w3 ⟨rfl,lv3,g1,g2,g3⟩;rw [← hw1] at g2 g3;obtain ⟨j1,j2,j3,j4,j5,_,_⟩:=J.out w3 lv3 g1 g2 g3
    have HA:=Hh (show RingI B w fb mb rb lv (.slice (some ⟨b',off,none⟩) qs.length c) qs w3 (.slice A6 s.1.length c6) ((qs.take (k+1)).foldl stepE ([],L)) from by
     rw [hnx.out,hst.out];exact ⟨lv3,g1,j1,j2,j3,j4,j5⟩)
    clear g1 g2 g3 j1 j2 j3 j4 j5 HC J hw1;go_wp2;go_roundw
    case rel => exact ⟨k+1,by omega,by go_num,HA⟩
    case measure => simp [intOf] <;> omega
  ·obtain rfl:k=qs.length:=by omega
   rw [List.take_length] at hI;obtain ⟨lv1,i1,i2,i3,i4,i5,i6⟩:=hI.out;obtain ⟨s,hs⟩:∃ s,qs.foldl stepE ([],L)=s:=⟨_,rfl⟩
   rw [hs] at i1 i3;obtain ⟨A6,c6,rfl,_,_⟩:=i3.rep.form;have c0:=cell_at i4 0 (.slice A qs.length c) rfl;have c1:=free_at i4 0;obtain ⟨w5,hw5⟩:∃ W,wr.setCell ⟨rb,0,none⟩ (.slice A6 s.1.length c6)=W:=⟨_,rfl⟩
   have O2:Only (fun k => k=rb) wr w5:=by rw [← hw5];exact Only.set _ _ rfl
   have b3:w5.heap[rb]?=some (.cells #[.slice A6 s.1.length c6] tRing (0,0)):=by rw [← hw5];simp [World.setCell,Array.getElem?_modify,i4]
   have n1:=i1.only O2 (fun k hk h9 => by
    subst h9;exact i1.off i4 (by decide) (by decide) hk)
   have n2:OwnL 4 w.heap.size tEq (REq lv1) w5 (.slice A6 s.1.length c6) s.1:=by
    have q1:OwnL 4 w.heap.size tEq (fun _ cs x => REq lv1 wr cs x) wr (.slice A6 s.1.length c6) s.1:=i3.imp fun cs x hx => hx
    have q2:OwnL 4 w.heap.size tEq (fun _ cs x => REq lv1 wr cs x) w5 (.slice A6 s.1.length c6) s.1:=q1.only (fun _ _ h => h) O2 fun k hk h9 => by
     have h1:=(i3.block k hk).1;have h2:=hrb.out;omega
    refine q2.imp fun cs x hx => ?_;obtain ⟨u,v,h1,h2,h3,h4,h5⟩:=hx
    have go:∀ (x:Value) (xs:List ByteArray),Nms 0 wr x xs→Nms 0 w5 x xs:=fun x xs g1 => g1.only (fun _ _ h => h) O2 fun k hk h9 => by
     obtain ⟨arr,g3⟩:=g1.typed k hk;rw [h9,i4] at g3;injection g3 with g3
     injection g3 with _ g3
     exact absurd g3 (by decide)
    exact ⟨u,v,h1,h2,go _ _ h3,go _ _ h4,h5⟩
   have O3:Only (fun k => ffoot fb mb lv k∨k=rb∨w.heap.size≤k) w w5:=(i5.mono fun k _ hk => by
    rcases hk with hk|hk
    ·exact .inl hk
    ·exact .inr (.inr hk)).trans (O2.mono fun k _ hk => .inr (.inl hk))
   have HF:=Hh (show ∃ lv' wv',FdSt B w5 fb mb s.2 lv'∧w5.heap[rb]?=some (.cells #[wv'] tRing (0,0))∧OwnL 4 B tEq (REq lv') w5 wv' s.1∧Only (fun k => ffoot fb mb lv k∨k=rb∨w.heap.size≤k) w w5 from ⟨lv1,_,n1,b3,n2.base HB.out,O3⟩);have hi2:=infoEqs;replace hs:=Hh hs;clear hI i1 i2 i3 i4 i5 i6 n1 n2 O2 O3 b3;go_wp2_with (first|(refine wpList_store_1 (wanted_none rfl _) _ _ rfl rfl rfl hi2 rfl c0 c1 hw5 ?_));clear hw5 c0 c1;go_wp2;go_ret;rw [hs.out];exact ⟨by simp,HF.out⟩
theorem sl_mem {α:Type} {sz M:Nat} {R:World→List Value→α→Prop} {w:World} {v:Value} {xs:List α} (h:SlRep sz M R w v xs):∀ x ∈ xs,∃ cs,R w cs x:=fun x hx => by
 obtain ⟨A,cap,_,_,_,h3⟩:=h;obtain ⟨i,hi⟩:=List.getElem?_of_mem hx;obtain ⟨_,_,cs,_,_,_,hr⟩:=h3 i x hi;exact ⟨cs,hr⟩
theorem RE.vs_ok:∀ (n:Nat) {w:World} {cs:List Value} {x:Ex},RE n w cs x→∀ v ∈ x.vs,v.size≤140737488351232
 | 0,_,_,_,h => h.elim
 | n+1,w,cs,.mk op t ks,h => fun v hv => by
  obtain ⟨kv,_,_,hok,hks⟩:=h;rw [Ex.vs,vss_flat] at hv;rcases List.mem_cons.1 hv with rfl|hv
  ·exact hok.1
  ·obtain ⟨y,hy,hv⟩:=List.mem_flatMap.1 hv;obtain ⟨cs',hr⟩:=sl_mem hks y hy;exact RE.vs_ok n hr v hv
theorem foldV_mem:∀ (vs L:List ByteArray) (x:ByteArray),x ∈ vs.foldl addVar L→x ∈ L∨x ∈ vs
 | [],L,x,h => .inl h
 | v :: r,L,x,h => by
  rw [List.foldl_cons] at h;rcases foldV_mem r _ x h with h|h
  ·unfold addVar at h
   split at h
   ·exact .inl h
   ·split at h
    ·exact .inl h
    ·split at h
     ·exact .inl h
     ·rcases List.mem_append.1 h with h|h
      ·exact .inl h
      ·rw [List.mem_singleton] at h;exact .inr (by rw [h];exact List.mem_cons_self)
  ·exact .inr (List.mem_cons_of_mem _ h)
theorem ddVs_mem {vs:List ByteArray} {x:ByteArray} (h:x ∈ ddVs vs):x ∈ vs:=(foldV_mem vs [] x h).resolve_left (by simp)
theorem ddVs_len (vs:List ByteArray):(ddVs vs).length≤vs.length:=by
 have:=foldl_len vs [];simpa [ddVs] using this
theorem tm_ok {M:Nat} {w:World} {v:Value} {ts:List Tm} (h:SlRep 4 M RTm w v ts):∀ x ∈ ts.map (·.v),x.size≤140737488351232:=fun x hx => by
 obtain ⟨t,ht,rfl⟩:=List.mem_map.1 hx;obtain ⟨cs,_,hok⟩:=sl_mem h t ht;exact hok.1
theorem Ex.lone_ok {n:Nat} {w:World} {cs:List Value} {x:Ex} (h:RE n w cs x):x.lone.size≤140737488351232:=by
 unfold Ex.lone
 split
 ·refine RE.vs_ok n h _ ?_;obtain ⟨op,t,ks⟩:=x;exact List.mem_cons_self
 ·decide
theorem stepE_sum (s:List Eqn×List ByteArray) (q:Eqn):(stepE s q).1.length+(stepE s q).2.length≤s.1.length+s.2.length+1:=by
 unfold stepE Eqn.takes
 repeat' split
 all_goals simp_all
 all_goals omega
theorem foldE_sum:∀ (qs:List Eqn) (s:List Eqn×List ByteArray),(qs.foldl stepE s).1.length+(qs.foldl stepE s).2.length≤s.1.length+s.2.length+qs.length
 | [],s => by simp
 | q :: r,s => by
  rw [List.foldl_cons,List.length_cons];have h1:=foldE_sum r (stepE s q);have h2:=stepE_sum s q;omega
theorem roundE_sum (qs:List Eqn) (L:List ByteArray):(roundE qs L).1.length+(roundE qs L).2.length≤qs.length+L.length:=by
 have:=foldE_sum qs ([],L);unfold roundE;simp at this;omega
theorem loopE_fuel:∀ (n m:Nat) (qs:List Eqn) (L:List ByteArray),qs.length<n→qs.length<m→loopE n qs L=loopE m qs L
 | 0,_,_,_,h,_ => absurd h (by omega)
 | _+1,0,_,_,_,h => absurd h (by omega)
 | n+1,m+1,qs,L,h1,h2 => by
  unfold loopE
  split
  ·exact loopE_fuel n m _ _ (by omega) (by omega)
  ·rfl
theorem loopE_go {qs:List Eqn} {L:List ByteArray} (h:(roundE qs L).1.length<qs.length):loopE (qs.length+1) qs L=loopE ((roundE qs L).1.length+1) (roundE qs L).1 (roundE qs L).2:=by
 rw [loopE,if_pos h];exact loopE_fuel _ _ _ _ h (by omega)
theorem loopE_stop {qs:List Eqn} {L:List ByteArray} (h:¬ (roundE qs L).1.length<qs.length):loopE (qs.length+1) qs L=(roundE qs L).2:=by
 rw [loopE,if_neg h]
def LimI (B fb mb rb:Nat) (W:World) (s:List Eqn×List ByteArray):Prop :=
 ∃ lv wv,FdSt B W fb mb s.2 lv∧W.heap[rb]?=some (.cells #[wv] tRing (0,0))∧OwnL 4 B tEq (REq lv) W wv s.1∧B≤rb
theorem LimI.fut {B fb mb rb:Nat} {W W':World} {s:List Eqn×List ByteArray} (h:LimI B fb mb rb W s) (hf:Fut W W'):LimI B fb mb rb W' s:=by
 obtain ⟨lv,wv,h1,h2,h3,h4⟩:=h;exact ⟨lv,wv,h1.fut hf,hf.block h2,h3.fut REq.stays hf,h4⟩
theorem FdSt.ge {B fb mb:Nat} {w:World} {L:List ByteArray} {lv:Value} (h:FdSt B w fb mb L lv):∀ k,ffoot fb mb lv k→B≤k:=by
 rintro k (rfl|rfl|hk)
 ·exact h.low.1
 ·exact h.low.2
 ·exact (h.list.block _ hk).1
theorem LimI.round {w0:World} {fb mb rb:Nat} {W:World} {qs:List Eqn} {L:List ByteArray} (hF:Fut w0 W) (h:LimI w0.heap.size fb mb rb W (qs,L)) (hL:L.length+qs.length≤1000000000) :
    Calls Tryz.prog 275 #[.pointer (some ⟨rb,0,none⟩),.func (.func 276) #[.pointer (some ⟨fb,0,none⟩)] #[]] W fun e w' => e = .returned (.bool (decide ((roundE qs L).1.length<qs.length)))∧Fut w0 w'∧LimI w0.heap.size fb mb rb w' (roundE qs L):=by
 obtain ⟨lv,wv,h1,h2,h3,h4⟩:=h;refine (round_any qs W h1 h2 h3 hF.size hL).mono ?_;rintro e w' ⟨rfl,lv',wv',g1,g2,g3,g4⟩;refine ⟨rfl,?_,lv',wv',g1,g2,g3,h4⟩;have hs:=hF.size
 have hO:Only (fun k => w0.heap.size≤k) w0 w':=(Only.fut hF).trans (g4.mono fun k _ hk => by
  rcases hk with hk|hk|hk
  ·exact h1.ge k hk
  ·omega
  ·omega)
 exact hO.toFut fun k hk => hk
theorem LimI.add {w0:World} {fb mb rb:Nat} {Wb W:World} {qs:List Eqn} {L:List ByteArray} {A:Option Addr} {n c:Nat} {vs:List ByteArray} (hF:Fut w0 Wb) (h:LimI w0.heap.size fb mb rb Wb (qs,L)) (f:Fut Wb W) (hv:Nms Wb.heap.size W (.slice A n c) vs) (hs:∀ v ∈ vs,v.size≤140737488351232) (hL:L.length+vs.length≤10000000000) :
    Calls Tryz.prog 271 #[.pointer (some ⟨fb,0,none⟩),.slice A n c] W fun e w' => (∃ u,e = .returned u)∧Fut w0 w'∧LimI w0.heap.size fb mb rb w' (qs,vs.foldl addF L):=by
 obtain ⟨lv,wv,h1,h2,h3,h4⟩:=h;have hlt:=h1.lt;replace h1:=h1.fut f;replace h2:=f.block h2;replace h3:=h3.fut REq.stays f;replace hF:=hF.trans f;obtain ⟨A1,c1,hAc,_,_⟩:=hv.rep.form;injection hAc with e1 e2 e3
 subst e1;subst e2;subst e3;refine (addF_any A c vs W h1 hF.size hv.rep (by unfold maxLen;omega) hs (fun a ha h9 => ?_) hL).mono ?_
 ·have g1:=hlt _ h9;have g2:=(hv.block a.block (by rw [ha];rfl)).1;omega
 ·rintro e w' ⟨hu,lv',g1,g2,g3⟩;refine ⟨hu,?_,lv',wv,g1,g2.keeps h2 (fun h9 => ?_),eqs_move h1 h3 g2 g3,h4⟩
  ·have hsz:=hF.size
   have hO:Only (fun k => w0.heap.size≤k) w0 w':=(Only.fut hF).trans (g2.mono fun k _ hk => by
    rcases hk with hk|hk
    ·exact h1.ge k hk
    ·omega)
   exact hO.toFut fun k hk => hk
  ·rcases h9 with h9|h9
   ·exact h1.off h2 (by decide) (by decide) h9
   ·have:=(Array.getElem?_eq_some_iff.1 h2).1;omega
theorem eqs_set {B rb:Nat} {w w5:World} {lv wv x:Value} {qs:List Eqn} (i3:OwnL 4 B tEq (REq lv) w wv qs) (i4:w.heap[rb]?=some (.cells #[x] tRing (0,0))) (O2:Only (fun k => k=rb) w w5):OwnL 4 B tEq (REq lv) w5 wv qs:=by
 have q1:OwnL 4 B tEq (fun _ cs x => REq lv w cs x) w wv qs:=i3.imp fun cs x hx => hx
 have q2:OwnL 4 B tEq (fun _ cs x => REq lv w cs x) w5 wv qs:=q1.only (fun _ _ h => h) O2 fun k hk h9 => by
  obtain ⟨arr,g3⟩:=i3.typed k hk;rw [h9,i4] at g3;injection g3 with g3
  injection g3 with _ g3
  exact absurd g3 (by decide)
 refine q2.imp fun cs x hx => ?_;obtain ⟨u,v,h1,h2,h3,h4,h5⟩:=hx
 have go:∀ (x:Value) (xs:List ByteArray),Nms 0 w x xs→Nms 0 w5 x xs:=fun x xs g1 => g1.only (fun _ _ h => h) O2 fun k hk h9 => by
  obtain ⟨arr,g3⟩:=g1.typed k hk;rw [h9,i4] at g3;injection g3 with g3
  injection g3 with _ g3
  exact absurd g3 (by decide)
 exact ⟨u,v,h1,h2,go _ _ h3,go _ _ h4,h5⟩
theorem lim_wait {w0 W w':World} {fb mb rb:Nat} {L:List ByteArray} {lv wv v':Value} {qs:List Eqn} {q:Eqn} (hF:Fut w0 W) (h1:FdSt w0.heap.size W fb mb L lv) (h2:W.heap[rb]?=some (.cells #[wv] tRing (0,0))) (h3:OwnL 4 w0.heap.size tEq (REq lv) W wv qs) (h4:w0.heap.size≤rb)
    (o:OwnL 4 w0.heap.size tEq (REq lv) w' v' (qs++[q])) (g:W.grownBy w' wv.ownBlock):w'.cell? ⟨rb,0,none⟩=some wv∧w'.frozen? ⟨rb,0,none⟩=false∧Fut w0 (w'.setCell ⟨rb,0,none⟩ v')∧LimI w0.heap.size fb mb rb (w'.setCell ⟨rb,0,none⟩ v') (qs++[q],L):=by
 have O1:Only (fun k => wv.ownBlock=some k) W w':=Only.grown g fun k hk => hk;have hty:=h3.typed
 have b1:=O1.keeps h2 (fun e => by
  obtain ⟨arr,h9⟩:=hty rb e;rw [h2] at h9;injection h9 with h9
  injection h9 with _ h9
  exact absurd h9 (by decide))
 have n1:=h1.only O1 (fun k hk e => by
  obtain ⟨arr,h9⟩:=hty k e;exact h1.off h9 (by decide) (by decide) hk)
 have O2:Only (fun k => k=rb) w' (w'.setCell ⟨rb,0,none⟩ v'):=Only.set _ _ rfl
 have n2:=n1.only O2 (fun k hk e => by
  subst e;exact n1.off b1 (by decide) (by decide) hk)
 have b3:(w'.setCell ⟨rb,0,none⟩ v').heap[rb]?=some (.cells #[v'] tRing (0,0)):=by simp [World.setCell,Array.getElem?_modify,b1]
 have hO:Only (fun k => w0.heap.size≤k) w0 (w'.setCell ⟨rb,0,none⟩ v'):=((Only.fut hF).trans (O1.mono fun k _ hk => (h3.block k hk).1)).trans (O2.mono fun k _ hk => by omega);exact ⟨cell_at b1 0 _ rfl,free_at b1 0,hO.toFut fun k hk => hk,lv,v',n2,b3,eqs_set o b1 O2,h4⟩
theorem foldB_len:∀ (xs:List Lt) (s:List Eqn×List ByteArray),(xs.foldl stepB s).1.length≤s.1.length+xs.length∧(xs.foldl stepB s).2.length≤s.2.length+(xs.flatMap Lt.vs).length
 | [],s => by simp
 | x :: r,s => by
  rw [List.foldl_cons,List.length_cons,List.flatMap_cons,List.length_append];have h1:=foldB_len r (stepB s x)
  have h2:(stepB s x).1.length≤s.1.length+1∧(stepB s x).2.length≤s.2.length+x.vs.length:=by
   unfold stepB
   split
   ·refine ⟨Nat.le_succ _,?_⟩;have h1:=foldF_len (tmVars x.a) s.2;have h2:=ddVs_len (x.a.map (·.v));unfold tmVars at h1;unfold Lt.vs;rw [List.length_append];unfold tmVars;show (List.foldl addF s.2 (ddVs _)).length≤_;omega
   ·split
    ·exact ⟨by simp,by simp⟩
    ·exact ⟨Nat.le_succ _,by omega⟩
  omega
end Go.Proofs.YtobabnpllokkaaaGreatDoor
namespace Go.Proofs.YtobabnpllokkaaaGreatDoor
open Go.RowKit Go.WideMaps
theorem run_alloc_of {P:Program} {T:TypeId} {z:Value} {n:Nat} (hi:(P.info? T).map (fun i => (i.zero,i.size))=some (some z,n)) (w:World):(Instr.alloc T true (.tuple #[])).run P w = .ok (.pointer (some ⟨w.heap.size,0,none⟩)) (w.alloc (.cells z.cells T)):=by
 cases hq:P.info? T with
 | none => simp [hq] at hi
 | some i =>
  have hz:i.zero=some z:=by
   rw [hq] at hi;simp at hi;exact hi.1
  simp [Instr.alloc,zeroValue,typeInfo,hq,hz,Sem.run_bind,newVar,newRow,run_newObj_alloc]
theorem box_store {P:Program} {T:TypeId} (w:World) (cs:List Value) (z:Array Value) (hi:(P.info? T).map (·.size)=some cs.length) (hz:z.size=cs.length) (h1:∀ v ∈ cs,v.oneCell'=true) :
    (Instr.storeAt T (.pointer (some ⟨w.heap.size,0,none⟩)) (.agg cs.toArray)).run P (w.alloc (.cells z T)) = .ok () (w.alloc (.cells cs.toArray T)):=by
 have hb:=heap_alloc_new w (.cells z T);have hs:cs.toArray.size=cs.length:=by simp
 have h2:=run_storeAt_mid (P:=P) (w.alloc (.cells z T)) w.heap.size 0 T cs.toArray (fun j hj0 => by
  have hj:j<cs.length:=by simpa using hj0
  refine ⟨?_,?_⟩
  ·rw [Nat.zero_add];simp only [World.cell?,hb];simp [hz,hj]
  ·simp only [World.frozen?,hb];simp) (by rw [hi,hs]) (by
   rw [Array.all_eq_true_iff_forall_mem];intro v hv;exact h1 v (by simpa using hv))
 obtain ⟨arr',h3,h4,h5⟩:=setCells_put cs 0 _ _ hb
 have e1:arr'=cs.toArray:=by
  refine Array.ext_getElem? fun j => ?_;rw [h5]
  by_cases hj:j<cs.length
  ·rw [if_pos (by omega)];simp
  ·rw [if_neg (by omega)];rw [Array.getElem?_eq_none (by omega),Array.getElem?_eq_none (by simpa using hj)]
 simp only at h2;rw [h3,e1,putObj_alloc] at h2;exact h2
theorem wpList_rangeBox {P:Program} {ops:Array Oper} {rest:List Oper} {o2 o3 o4:Oper} {a:Act} {Q:Exit→Act→World→Prop} {w w':World} {T:TypeId} {x x4 y4:Operand} {b o:Nat} (cs:List Value) {z:Value} {fs:Array Field}
    (g2:o2.guard=none) (g3:o3.guard=none) (g4:o4.guard=none) (h2:o2.op = .load T x) (h3:o3.op = .alloc T) (h4:o4.op = .store T x4 y4) (hx:a.eval x = .pointer (some ⟨b,o,none⟩)) (hc:∀ j v,cs[j]?=some v→w.cell? ⟨b,o+j,none⟩=some v)
    (hu:P.underlying T=some (.struct fs)) (hi:(P.info? T).map (fun i => (i.zero,i.size))=some (some z,cs.length)) (hz:z.cells.size=cs.length) (h1:∀ v ∈ cs,v.oneCell'=true)
    (hx4:((a.put o2.dst (.agg cs.toArray)).put o3.dst (.pointer (some ⟨w.heap.size,0,none⟩))).eval x4 = .pointer (some ⟨w.heap.size,0,none⟩)) (hy4:((a.put o2.dst (.agg cs.toArray)).put o3.dst (.pointer (some ⟨w.heap.size,0,none⟩))).eval y4 = .agg cs.toArray)
    (hw:w.alloc (.cells cs.toArray T)=w') (h:wpList P ops Q rest (((a.put o2.dst (.agg cs.toArray)).put o3.dst (.pointer (some ⟨w.heap.size,0,none⟩))).put o4.dst undef) w'):wpList P ops Q (o2 :: o3 :: o4 :: rest) a w:=by
 subst hw
 have hs:(P.info? T).map (·.size)=some cs.length:=by
  cases hq:P.info? T with
  | none => simp [hq] at hi
  | some i =>
   rw [hq] at hi;simp at hi;simp [hi.2]
 refine wpList_load_mid g2 T x h2 b o hx cs _ hc hu rfl hs ?_;refine wpList_of_run (wanted_none g3 _) (v:=.pointer (some ⟨w.heap.size,0,none⟩)) (w':=w.alloc (.cells z.cells T)) ?_ ?_
 ·unfold execOp;simp only [h3,Sem.run_bind,Sem.run_pure,Result.andThen_ok,run_alloc_of hi]
 ·refine wpList_of_skip (wanted_none g4 _) (w':=w.alloc (.cells cs.toArray T)) ?_ h;unfold execOp;simp only [h4,hx4,hy4,Sem.run_bind,Sem.run_pure,Result.andThen_ok,box_store w cs z.cells hs hz h1]
end Go.Proofs.YtobabnpllokkaaaGreatDoor
