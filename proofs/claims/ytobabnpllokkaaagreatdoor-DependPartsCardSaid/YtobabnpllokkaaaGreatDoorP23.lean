/- Parts. -/
import Derived.Test.YtobabnpllokkaaaGreatDoorP18
import Derived.Test.YtobabnpllokkaaaGreatDoorP22
import Derived.Test.YtobabnpllokkaaaGreatDoorP15
import Derived.Test.YtobabnpllokkaaaGreatDoorP11
import Derived.Test.YtobabnpllokkaaaGreatDoorP04
import Derived.Test.YtobabnpllokkaaaGreatDoorP02
import Derived.Test.YtobabnpllokkaaaGreatDoorP00
set_option linter.unusedSimpArgs false
set_option linter.unusedVariables false
namespace Go.Proofs.YtobabnpllokkaaaGreatDoor
open Go.RowKit Go.WideMaps Go.Maps
structure PrL (L F:List ByteArray):Prop where
 up:Up cmpS L
 mem:∀ x,x ∈ L↔x ∈ F
 len:L.length≤100000000
theorem prl_len {rs:List Ru} (hS:Small rs) {L:List ByteArray} (hU:Up cmpS L) (hm:∀ x ∈ L,x ∈ rs.flatMap Ru.nN):L.length≤100000000:=by
 have h1:=draw_len hS;have h2:(drawP rs).names.length=(drawP rs).length:=List.length_map _
 have h3:=nodup_le (m:=(drawP rs).names) (up9_nodup hU) fun x hx => by
  rw [(draw_ok rs).nm];exact hm x hx
 omega
theorem PrL.put {rs:List Ru} (hS:Small rs) {L L' F:List ByteArray} {s:ByteArray} (h:PrL L F) (hU:Up cmpS L') (hm:∀ x,x ∈ L'↔x ∈ L∨x=s) (hF:∀ x ∈ F++[s],x ∈ rs.flatMap Ru.nN):PrL L' (F++[s]):=by
 have hmem:∀ x,x ∈ L'↔x ∈ F++[s]:=fun x => by rw [hm,h.mem,List.mem_append,List.mem_singleton]
 exact ⟨hU,hmem,prl_len hS hU fun x hx => hF x ((hmem x).1 hx)⟩
theorem nN_sub {rs:List Ru} {k:Nat} (hk:k<rs.length):∀ x ∈ (rs.take k).flatMap Ru.nN++rs[k].nN,x ∈ rs.flatMap Ru.nN:=fun x hx => by
 rw [← nN_take hk] at hx;obtain ⟨r,hr,h⟩:=List.mem_flatMap.1 hx;exact List.mem_flatMap.2 ⟨r,List.mem_of_mem_take hr,h⟩
theorem nA_sub (r:Ru) (m:Nat):∀ x ∈ r.p :: r.nA m,x ∈ r.nN:=fun x hx => by
 rw [← Ru.nA_all];rcases List.mem_cons.1 hx with rfl|hx
 ·exact List.mem_cons_self
 ·refine List.mem_cons_of_mem _ ?_;unfold Ru.nA at hx ⊢;rw [List.take_length];obtain ⟨l,hl,rfl⟩:=List.mem_map.1 hx;obtain ⟨h1,h2⟩:=List.mem_filter.1 hl;exact List.mem_map.2 ⟨l,List.mem_filter.2 ⟨List.mem_of_mem_take h1,h2⟩,rfl⟩
structure PrW (w W:World) (pv u:Value) (L:List ByteArray):Prop where
 fut:Fut w W
 prog:W.heap[w.heap.size]?=some (.cells #[pv] tPr9 (0,0))
 list:Nms w.heap.size W u L
theorem PrW.later {w W w':World} {pv u:Value} {L:List ByteArray} (h:PrW w W pv u L) (hf:Fut W w'):PrW w w' pv u L :=
 ⟨h.fut.trans hf,hf.block h.prog,h.list.fut RNm.stays hf⟩
theorem PrW.next {w W w':World} {pv u v:Value} {L L':List ByteArray} (h:PrW w W pv u L) (hf:Fut W w') (ho:Nms w.heap.size w' v L'):PrW w w' pv v L' :=
 ⟨h.fut.trans hf,hf.block h.prog,ho⟩
set_option maxHeartbeats 8000000 in
set_option maxRecDepth 100000 in
theorem rpreds_any {M:Nat} (A:Option Addr) (c:Nat) (rs:List Ru) (w:World) (h:SlRep 3 M RRu w (.slice A rs.length c) rs) (hM:M≤9223372036854775807) (hS:Small rs) :
    Calls Tryz.prog 29 #[.agg #[.slice A rs.length c]] w fun e w' => ∃ v,e = .returned v∧Nms w.heap.size w' v (drawP rs).sorted∧Fut w w':=by
 obtain ⟨_,_,hv,hl1,hl2⟩:=h.form;have hxl:rs.length≤9223372036854775807:=by omega
 have H:=Hh h;have HS:=Hh hS;clear h hS hl1 hl2 hv;have hbx:=heap_alloc_new w (.cells #[.slice A rs.length c] 28);obtain ⟨pv,hpv⟩:∃ v,Value.slice A rs.length c=v:=⟨_,rfl⟩
 have HI:=Hh (show PrW w (w.alloc (.cells #[.slice A rs.length c] 28)) pv (.slice none 0 0) [] from ⟨Fut.alloc w _,by rw [← hpv];exact hbx,OwnL.nil⟩);have HP0:=Hh (show PrL [] ((rs.take 0).flatMap Ru.nN) from ⟨List.Pairwise.nil,fun x => by simp,by simp⟩);replace hpv:=Hh hpv;clear hbx;go_enter Tryz.func29,Tryz.ntmps29;go_wp2_with fail;go_loopw [3,4,5] (fun u i _ wr => ∃ (k:Nat) (L:List ByteArray),k≤rs.length∧i = .int .i64 k∧Hid (PrW w wr pv u L)∧Hid (PrL L ((rs.take k).flatMap Ru.nN))) (fun _ i _ _ => rs.length - (intOf i).toNat)
 case atStart => exact ⟨0,[],Nat.zero_le _,rfl,HI,HP0⟩
 case round =>
  clear HI HP0;obtain ⟨k,L,hk,rfl,hI,hL⟩:=hrel;obtain ⟨wq,hwq⟩:∃ x,x=wr:=⟨_,rfl⟩
  subst hwq;have y0:=cell_at hI.out.prog 0 pv rfl;rw [← hpv.out] at y0
  by_cases hlt:k<rs.length
  ·have hltI:(k:Int)<rs.length:=by omega
   have e0:(0:Int)≤k∧(k:Int)<rs.length:=by omega
   obtain ⟨b',off,Ah,ch,Ab,cb,rfl,u0,u1,u2,hp,hh1,hh2⟩:=ru_at H.out hlt;have hnx:=Hh (nN_take hlt);have hsub:=Hh (nN_sub hlt);have hmem:=HS.out.mem (List.getElem_mem hlt);generalize rs[k]=r at *;have hbl:=hmem.2;obtain ⟨F,hF⟩:∃ F,(rs.take k).flatMap Ru.nN=F:=⟨_,rfl⟩
   rw [hF] at hnx hsub hL;have U0:=Hh u0;have U2:=Hh u2;have HB2:=Hh hh2;have v0:=hI.out.fut.cell u0;obtain ⟨Au,cu,rfl,_,_⟩:=hI.out.list.rep.form;have hPl:=hL.out.len;have HPt:=Hh (rput_any (B:=w.heap.size) r.p Au cu L wq hI.out.list hL.out.up hI.out.fut.size hPl);clear u0 u1 u2 hp hh1 hh2 hmem hF;go_wp2_with fail;refine HPt.out.mono ?_;rintro e w9 ⟨v9,L9,rfl,hO9,hU9,hm9,hln,hf9⟩;have HI9:=Hh (hI.out.next hf9 hO9)
   have HL9:=Hh (show PrL L9 (F++r.p :: r.nA 0) from hL.out.put HS.out hU9 hm9 fun x hx => hsub.out x (by
    rw [← Ru.nA_all];rcases List.mem_append.1 hx with q|q
    ·exact List.mem_append_left _ q
    ·rw [List.mem_singleton] at q;subst q;exact List.mem_append_right _ List.mem_cons_self))
   clear hO9 hU9 hm9 hln hf9 HPt hI hL hPl v0 y0;go_wp2_with fail;go_loopw [3,5] (fun u i W => ∃ (m:Nat) (L:List ByteArray),m≤r.b.length∧i = .int .i64 m∧Hid (PrW w W pv u L)∧Hid (PrL L (F++r.p :: r.nA m))) (fun _ i _ => r.b.length - (intOf i).toNat)
   case atStart => exact ⟨0,L9,Nat.zero_le _,rfl,HI9,HL9⟩
   case round =>
    clear HI9 HL9;obtain ⟨m,L1,hm,rfl,hJ,hK⟩:=hrel;obtain ⟨wz,hwz⟩:∃ x,x=wr:=⟨_,rfl⟩
    subst hwz;have q0:=cell_at hJ.out.prog 0 pv rfl;rw [← hpv.out] at q0;have q2:=hJ.out.fut.cell U2.out
    by_cases hlm:m<r.b.length
    ·have hlmI:(m:Int)<r.b.length:=by omega
     have e1:(0:Int)≤m∧(m:Int)<r.b.length:=by omega
     obtain ⟨b2,off2,A',c2,Al,l',cl,Ad,d',cd,rfl,hcs,_,_,g3⟩:=lt_at HB2.out hlm;have hna:=Hh (Ru.nA_succ r hlm);generalize r.b[m]=z at *;have hcsA:=Hh (fun j v hj => hJ.out.fut.cell (hcs j v hj));have U1:=Hh (hcs 1 (.string z.p) rfl);have HAt:=Hh (risAtom_any z A' z.a.length c2 Al l' cl Ad d' cd wz);clear hcs g3;obtain ⟨ia,hia⟩:∃ b,z.isA=b:=⟨_,rfl⟩
     rw [hia] at HAt hna;clear hia;cases ia
     ·go_wp2_with (first|(show wpList _ _ _ (Oper.mk _ (Op.load 120 _) _ _ _ _ :: _) _ _;refine Go.wpList_load_mid rfl _ _ rfl b2 (off2+m * 16) rfl (z.cs (.slice A' z.a.length c2) (.slice Al l' cl) (.slice Ad d' cd)) _ hcsA.out Tryz.underlying120 rfl infoLtS ?_));refine HAt.out.mono ?_;rintro e w3 ⟨rfl,f3⟩;have HJ3:=Hh (hJ.out.later f3);have HK3:=Hh (show PrL L1 (F++r.p :: r.nA (m+1)) by rw [hna.out,if_neg (by decide),List.append_nil];exact hK.out);clear f3;go_wp2;go_roundw
      case rel => exact ⟨m+1,L1,by omega,by go_num,HJ3,HK3⟩
      case measure => simp [intOf] <;> omega
     ·rw [if_pos rfl] at hna;go_wp2_with (first|(show wpList _ _ _ (Oper.mk _ (Op.load 120 _) _ _ _ _ :: _) _ _;refine Go.wpList_load_mid rfl _ _ rfl b2 (off2+m * 16) rfl (z.cs (.slice A' z.a.length c2) (.slice Al l' cl) (.slice Ad d' cd)) _ hcsA.out Tryz.underlying120 rfl infoLtS ?_));refine HAt.out.mono ?_;rintro e w3 ⟨rfl,f3⟩;have HJ3:=Hh (hJ.out.later f3);clear f3 hcsA hJ HAt q0 q2;have q0':=cell_at HJ3.out.prog 0 pv rfl;rw [← hpv.out] at q0';have q2':=HJ3.out.fut.cell U2.out;have u1':=HJ3.out.fut.cell U1.out;obtain ⟨Av,cv,rfl,_,_⟩:=HJ3.out.list.rep.form;have hKl:=hK.out.len;have HPt:=Hh (rput_any (B:=w.heap.size) z.p Av cv L1 w3 HJ3.out.list hK.out.up HJ3.out.fut.size hKl);go_wp2_with fail;refine HPt.out.mono ?_;rintro e w9 ⟨v9,L9,rfl,hO9,hU9,hm9,hln,hf9⟩;have HI9:=Hh (HJ3.out.next hf9 hO9)
      have HL9:=Hh (show PrL L9 (F++r.p :: r.nA (m+1)) from by
       have h9:=hK.out.put (s:=z.p) HS.out hU9 hm9 fun x hx => hsub.out x (by
        rw [List.append_assoc,List.cons_append,← hna.out] at hx;rcases List.mem_append.1 hx with q|q
        ·exact List.mem_append_left _ q
        ·exact List.mem_append_right _ (nA_sub r (m+1) x q))
       rw [List.append_assoc,List.cons_append,← hna.out] at h9;exact h9)
      clear hO9 hU9 hm9 hln hf9 HPt HJ3 hKl hK;go_wp2;go_roundw
      case rel => exact ⟨m+1,L9,by omega,by go_num,HI9,HL9⟩
      case measure => simp [intOf] <;> omega
    ·obtain rfl:m=r.b.length:=by omega
     have HK9:=Hh (show PrL L1 ((rs.take (k+1)).flatMap Ru.nN) by rw [hnx.out,← Ru.nA_all];exact hK.out);clear hK;go_wp2;go_roundw
     case rel => exact ⟨k+1,L1,by omega,by go_num,hJ,HK9⟩
     case measure => simp [intOf] <;> omega
  ·obtain rfl:k=rs.length:=by omega
   rw [List.take_length] at hL;have hLs:=preds_sorted hL.out.up hL.out.mem;subst hLs;go_wp2;go_ret;exact ⟨_,rfl,hI.out.list,hI.out.fut⟩
structure Gat (R:ByteArray→ByteArray→Prop) (names:List ByteArray) (s:ByteArray) (i k:Nat) (part:List ByteArray):Prop where
 up:Up cmpS part
 mem:∀ v,v ∈ part↔v ∈ (names.take k).drop i∧R s v∧R v s
section
variable {N:ByteArray→Prop} {R:ByteArray→ByteArray→Prop} {names inn part:List ByteArray} {P:List (List ByteArray)} {i k:Nat} {s x:ByteArray}
theorem GrpI.apart (ht:∀ u v x,R u v→R v x→R u x) (h:GrpI N R names i inn P) (hs:s ∉ inn) (h1:R s x) (h2:R x s):x ∉ inn:=fun hv => by
 obtain ⟨k,u,a,b,c,d⟩:=(h.inn_ x).1 hv;exact hs ((h.inn_ s).2 ⟨k,u,a,b,ht _ _ _ c h2,ht _ _ _ h1 d⟩)
theorem GrpI.sub (hN:∀ u v,N u→R u v→N v) (hM:∀ x,x ∈ names↔N x) (h:GrpI N R names i inn P):∀ v ∈ inn,v ∈ names:=fun v hv => by
 obtain ⟨k,u,a,b,c,d⟩:=(h.inn_ v).1 hv;exact (hM v).2 (hN u v ((hM u).1 (List.mem_of_getElem? b)) c)
theorem Gat.start:Gat R names s i i [] :=
 ⟨List.Pairwise.nil,fun v => ⟨fun h => (by cases h),fun h => by
  have:=h.1;rw [List.drop_eq_nil_of_le (by rw [List.length_take];omega)] at this;cases this⟩⟩
theorem gat_seg (hik:i≤k) (hx:names[k]?=some x):(names.take (k+1)).drop i=(names.take k).drop i++[x]:=by
 obtain ⟨hl,rfl⟩:=List.getElem?_eq_some_iff.1 hx;rw [List.take_succ_eq_append_getElem hl,List.drop_append_of_le_length (by rw [List.length_take];omega)]
theorem Gat.no (h:Gat R names s i k part) (hik:i≤k) (hx:names[k]?=some x) (hr:¬ (R s x∧R x s)):Gat R names s i (k+1) part :=
 ⟨h.up,fun v => by
  rw [h.mem,gat_seg hik hx,List.mem_append,List.mem_singleton]
  constructor
  ·rintro ⟨a,b⟩;exact ⟨.inl a,b⟩
  ·rintro ⟨a|rfl,b⟩
   ·exact ⟨a,b⟩
   ·exact absurd b hr⟩
theorem Gat.yes (hU:Up cmpS names) (h:Gat R names s i k part) (hik:i≤k) (hx:names[k]?=some x) (hr:R s x∧R x s):Gat R names s i (k+1) (part++[x]):=by
 refine ⟨List.pairwise_append.2 ⟨h.up,List.pairwise_singleton _ _,fun a ha b hb => ?_⟩,fun v => ?_⟩
 ·rw [List.mem_singleton] at hb;subst hb;have hm:=List.mem_of_mem_drop ((h.mem a).1 ha).1;obtain ⟨j,hj⟩:=List.getElem?_of_mem hm
  have hjk:j<k:=by
   have:=(List.getElem?_eq_some_iff.1 hj).1;rw [List.length_take] at this;omega
  rw [List.getElem?_take,if_pos hjk] at hj;exact hU.at_lt hj hx hjk
 ·rw [List.mem_append,h.mem,gat_seg hik hx,List.mem_append,List.mem_singleton]
  constructor
  ·rintro (⟨a,b⟩|rfl)
   ·exact ⟨.inl a,b⟩
   ·exact ⟨.inr rfl,hr⟩
  ·rintro ⟨a|rfl,b⟩
   ·exact .inl ⟨a,b⟩
   ·exact .inr rfl
theorem Gat.fin (h:Gat R names s i names.length part):∀ v,v ∈ part↔v ∈ names.drop i∧R s v∧R v s:=fun v => by
 have:=h.mem v
 rwa [List.take_length] at this
theorem Gat.sub (h:Gat R names s i k part):∀ v ∈ part,v ∈ names:=fun v hv => List.mem_of_mem_take (List.mem_of_mem_drop ((h.mem v).1 hv).1)
theorem GrpI.once (ht:∀ u v x,R u v→R v x→R u x) (h:GrpI N R names i inn P) (hs:s ∉ inn) (hn:inn.Nodup) (hg:Gat R names s i k part) (hp:part.Nodup):(inn++part).Nodup :=
 List.nodup_append.2 ⟨hn,hp,fun a ha b hb e => by
  subst e;have:=((hg.mem a).1 hb).2;exact h.apart ht hs this.1 this.2 ha⟩
end
structure PgI (w W:World) (vi vo:Value) (inn:List ByteArray) (P:List (List ByteArray)):Prop where
 fut:Fut w W
 inn:Nms w.heap.size W vi inn
 out:OwnL 1 w.heap.size 76 (RLs w.heap.size vi) W vo P
structure PgJ (w wz W:World) (vi0 vi vp:Value) (inn pt:List ByteArray):Prop where
 on:Only (fun k => vi0.ownBlock=some k∨wz.heap.size≤k) wz W
 inn:Nms w.heap.size W vi inn
 inb:∀ k,vi.ownBlock=some k→vi0.ownBlock=some k∨wz.heap.size≤k
 part:Nms wz.heap.size W vp pt
 ne:∀ k,vp.ownBlock=some k→vi.ownBlock≠some k
section
variable {w wz W W':World} {vi0 vi vi' vo vp vp':Value} {inn pt:List ByteArray} {P:List (List ByteArray)} {x:ByteArray}
theorem PgI.start (w:World):PgI w w (.slice none 0 0) (.slice none 0 0) [] []:=⟨Fut.refl _,OwnL.nil,OwnL.nil⟩
theorem PgI.later (h:PgI w W vi vo inn P) (hf:Fut W W'):PgI w W' vi vo inn P :=
 ⟨h.fut.trans hf,h.inn.fut RNm.stays hf,h.out.fut RLs.stays hf⟩
theorem PgI.begin (h:PgI w wz vi vo inn P):PgJ w wz wz vi vi (.slice none 0 0) inn [] :=
 ⟨Only.refl _,h.inn,fun k hk => .inl hk,OwnL.nil,fun k hk => by cases hk⟩
theorem PgJ.later (h:PgJ w wz W vi0 vi vp inn pt) (hf:Fut W W'):PgJ w wz W' vi0 vi vp inn pt :=
 ⟨h.on.trans (Only.fut hf),h.inn.fut RNm.stays hf,h.inb,h.part.fut RNm.stays hf,h.ne⟩
theorem PgJ.pushPart (h:PgJ w wz W vi0 vi vp inn pt) {pt':List ByteArray} (o:Nms wz.heap.size W' vp' pt') (g:W.grownBy W' vp.ownBlock) (sn:SameOrNew W vp vp'):PgJ w wz W' vi0 vi vp' inn pt':=by
 have O1:Only (fun k => vp.ownBlock=some k) W W':=Only.grown g fun k hk => hk;refine ⟨h.on.trans (O1.mono fun k _ hk => .inr (h.part.block k hk).1),h.inn.only (fun _ _ h => h) O1 fun k hk e => h.ne k e hk,h.inb,o,fun k hk e => ?_⟩;rcases sn with q|q
 ·rw [q] at hk;exact h.ne k hk e
 ·have h1:=q k hk;have h2:=(h.inn.block k e).2;omega
theorem PgJ.pushIn (h:PgJ w wz W vi0 vi vp inn pt) {inn':List ByteArray} (o:Nms w.heap.size W' vi' inn') (g:W.grownBy W' vi.ownBlock) (sn:SameOrNew W vi vi'):PgJ w wz W' vi0 vi' vp inn' pt:=by
 have O1:Only (fun k => vi.ownBlock=some k) W W':=Only.grown g fun k hk => hk;have hz:=h.on.size;refine ⟨h.on.trans (O1.mono fun k _ hk => h.inb k hk),o,fun k hk => ?_,h.part.only (fun _ _ h => h) O1 fun k hk e => h.ne k hk e,fun k hk e => ?_⟩
 ·rcases sn with q|q
  ·rw [q] at hk;exact h.inb k hk
  ·have h1:=q k hk;exact .inr (by omega)
 ·rcases sn with q|q
  ·rw [q] at e;exact h.ne k hk e
  ·have h1:=q k e;have h2:=(h.part.block k hk).2;omega
theorem PgJ.fin {inn0:List ByteArray} (h:PgJ w wz W vi0 vi vp inn pt) (h0:PgI w wz vi0 vo inn0 P):PgI w W vi vo inn P:=by
 have hz:=h0.fut.size;refine ⟨((Only.fut h0.fut).trans (h.on.mono (S':=fun k => w.heap.size≤k) fun k _ hk => ?_)).toFut fun k hk => hk,h.inn,outs_move h0.out h.on (fun k hk e => ?_) (fun k hk hne e => ?_) (fun k hk e => ?_)⟩
 ·rcases hk with hk|hk
  ·exact (h0.inn.block k hk).1
  ·omega
 ·rcases e with e|e
  ·obtain ⟨a1,g1⟩:=h0.out.typed k hk;obtain ⟨a2,g2⟩:=h0.inn.typed k e;exact other_block g1 g2 (by decide) rfl
  ·have:=(h0.out.block k hk).2;omega
 ·rcases e with e|e
  ·exact hne e
  ·obtain ⟨arr,g⟩:=hk;have:=(Array.getElem?_eq_some_iff.1 g).1;omega
 ·rcases h.inb k e with q|q
  ·exact q
  ·omega
theorem PgI.push (h:PgI w W vi vo inn P) {P':List (List ByteArray)} {vo':Value} (o:OwnL 1 w.heap.size 76 (RLs w.heap.size vi) W' vo' P') (g:W.grownBy W' vo.ownBlock):PgI w W' vi vo' inn P':=by
 have O1:Only (fun k => vo.ownBlock=some k) W W':=Only.grown g fun k hk => hk;refine ⟨((Only.fut h.fut).trans (O1.mono (S':=fun k => w.heap.size≤k) fun k _ hk => (h.out.block k hk).1)).toFut fun k hk => hk,h.inn.only (fun _ _ h => h) O1 fun k hk e => ?_,o⟩;obtain ⟨a1,g1⟩:=h.out.typed k e;obtain ⟨a2,g2⟩:=h.inn.typed k hk;exact other_block g2 g1 (by decide) rfl
end
def slLen:Value→Nat
 | .slice _ n _ => n
 | _ => 0
set_option maxHeartbeats 4000000 in
set_option maxRecDepth 100000 in
theorem rready_any {M M1 M2:Nat} (A:Option Addr) (c:Nat) (rs:List Ru) (es:List Ed) (Ap:Option Addr) (cp:Nat) (part:List ByteArray) (Ad:Option Addr) (cd:Nat) (D:List ByteArray) (w:World) (hes:edgesP rs=es) (h:SlRep 4 M REd w (.slice A es.length c) es) (hM:M≤9223372036854775807) (hel:es.length≤10000000)
    (hp:SlRep 1 M1 RNm w (.slice Ap part.length cp) part) (hM1:M1≤9223372036854775807) (hd:SlRep 1 M2 RNm w (.slice Ad D.length cd) D) (hM2:M2≤9223372036854775807) :
    Calls Tryz.prog 32 #[.slice A es.length c,.slice Ap part.length cp,.slice Ad D.length cd] w fun e w' => ∃ b,e = .returned (.bool b)∧(b=true↔RdyL (Rch (drawP rs)) D part)∧Fut w w':=by
 have HR:=Hh (fun s W (hW:Fut w W) => rreach_any A c rs es s W hes (h.fut REd.stays hW) hM hel);have HA:=Hh (fun s W (hW:Fut w W) => rhas9_any s Ap cp part W (hp.fut RNm.stays hW) hM1);have HD:=Hh (fun s W (hW:Fut w W) => rhas9_any s Ad cd D W (hd.fut RNm.stays hW) hM2);have HP:=Hh hp;have hpl:part.length≤9223372036854775807:=Nat.le_trans hp.len hM1;clear h hp hd hes;go_enter Tryz.func32,Tryz.ntmps32;go_wp2_with fail;go_loopw [7,8,9] (fun i _ _ W => ∃ k:Nat,k≤part.length∧i = .int .i64 k∧Hid (Fut w W)∧Hid (∀ u ∈ part.take k,∀ v,Rch (drawP rs) u v→v ∈ part∨v ∈ D)) (fun i _ _ _ => part.length - (intOf i).toNat)
 case atStart => exact ⟨0,Nat.zero_le _,rfl,Hh (Fut.refl _),Hh (fun u hu => by simp at hu)⟩
 case round =>
  obtain ⟨k,hk,rfl,hF,hI⟩:=hrel;obtain ⟨wq,hwq⟩:∃ x,x=wr:=⟨_,rfl⟩
  subst hwq
  by_cases hlt:k<part.length
  ·have hltI:(k:Int)<part.length:=by omega
   have e0:(0:Int)≤k∧(k:Int)<part.length:=by omega
   obtain ⟨bx,ox,rfl,u0⟩:=nm_at (HP.out.fut RNm.stays hF.out) hlt;have Htk:=Hh (List.take_succ_eq_append_getElem hlt);have Hmem:=Hh (List.getElem_mem hlt);generalize part[k]=s at *;have HR1:=Hh (HR.out s wq hF.out);go_wp2_with fail;refine HR1.out.mono ?_;rintro e w3 ⟨v,L,rfl,hL,hO,f3⟩;have HL:=Hh hL;have HO:=Hh hO;have F3:=Hh (hF.out.trans f3);obtain ⟨A3,c3,rfl,_,hc3⟩:=hO.rep.form;have hLl:L.length≤9223372036854775807:=by have:=hO.rep.len;unfold maxLen at this;omega
   clear hL hO f3 HR1 hF;go_wp2_with fail;go_loopw [9] (fun i W => ∃ m:Nat,m≤L.length∧i = .int .i64 m∧Hid (W=w3)∧Hid (∀ v ∈ L.take m,v ∈ part∨v ∈ D)) (fun i _ => L.length - (intOf i).toNat)
   case atStart => exact ⟨0,Nat.zero_le _,rfl,Hh rfl,Hh (fun u hu => by simp at hu)⟩
   case round =>
    obtain ⟨m,hm,rfl,hW,hJ⟩:=hrel;obtain rfl:=hW.out
    by_cases hlm:m<L.length
    ·have hlmI:(m:Int)<L.length:=by omega
     have e1:(0:Int)≤m∧(m:Int)<L.length:=by omega
     obtain ⟨b3,o3,rfl,x0⟩:=nm_at HO.out.rep hlm;have Htm:=Hh (List.take_succ_eq_append_getElem hlm);have Hxm:=Hh (List.getElem_mem hlm);generalize L[m]=x at *;have HA1:=Hh (HA.out x wr F3.out);have HD1:=Hh (HD.out x wr F3.out)
     have next:(x ∈ part∨x ∈ D)→Hid (∀ v ∈ L.take (m+1),v ∈ part∨v ∈ D):=fun hx => Hh fun v hv => by
      rw [Htm.out,List.mem_append,List.mem_singleton] at hv;rcases hv with hv|rfl
      ·exact hJ.out v hv
      ·exact hx
     replace next:=Hh next
     by_cases hx:x ∈ part
     ·rw [decide_eq_true hx] at HA1;have HJ2:=next.out (.inl hx)
      clear next hx
      go_wp2_with fail;refine HA1.out.mono ?_;rintro e w4 ⟨rfl,rfl⟩;go_wp2;go_roundw
      case rel => exact ⟨m+1,by omega,by go_num,(by first|exact Hh trivial|exact Hh rfl),HJ2⟩
      case measure => simp [intOf] <;> omega
     ·rw [decide_eq_false hx] at HA1;go_wp2_with fail;refine HA1.out.mono ?_;rintro e w4 ⟨rfl,rfl⟩
      by_cases hy:x ∈ D
      ·rw [decide_eq_true hy] at HD1;have HJ2:=next.out (.inr hy)
       clear next hx hy
       go_wp2_with fail;refine HD1.out.mono ?_;rintro e w4 ⟨rfl,rfl⟩;go_wp2;go_roundw
       case rel => exact ⟨m+1,by omega,by go_num,(by first|exact Hh trivial|exact Hh rfl),HJ2⟩
       case measure => simp [intOf] <;> omega
      ·rw [decide_eq_false hy] at HD1
       have Hno:=Hh (show ¬ RdyL (Rch (drawP rs)) D part from fun h9 => by
        rcases h9 s Hmem.out x ((HL.out.2 x).1 Hxm.out) with q|q
        ·exact hx q
        ·exact hy q)
       clear next hx hy
       go_wp2_with fail;refine HD1.out.mono ?_;rintro e w4 ⟨rfl,rfl⟩;go_wp2;go_ret;exact ⟨false,rfl,⟨fun h => (by cases h),fun h => absurd h Hno.out⟩,F3.out⟩
    ·obtain rfl:m=L.length:=by omega
     rw [List.take_length] at hJ
     have HI2:=Hh (show ∀ u ∈ part.take (k+1),∀ v,Rch (drawP rs) u v→v ∈ part∨v ∈ D from fun u hu v hv => by
      rw [Htk.out,List.mem_append,List.mem_singleton] at hu;rcases hu with hu|rfl
      ·exact hI.out u hu v hv
      ·exact hJ.out v ((HL.out.2 v).2 hv))
     clear hJ hI;go_wp2;go_roundw
     case rel => exact ⟨k+1,by omega,by go_num,F3,HI2⟩
     case measure => simp [intOf] <;> omega
  ·obtain rfl:k=part.length:=by omega
   rw [List.take_length] at hI;go_wp2;go_ret;exact ⟨true,rfl,⟨fun _ => hI.out,fun _ => rfl⟩,hF.out⟩
theorem rch_tr (rs:List Ru):∀ u v x,Rch (drawP rs) u v→Rch (drawP rs) v x→Rch (drawP rs) u x:=fun _ _ _ h k => h.trans k
theorem rch_nm (rs:List Ru):∀ u v,u ∈ (drawP rs).names→Rch (drawP rs) u v→v ∈ (drawP rs).names:=fun _ _ hu h => h.name (draw_closed rs) hu
theorem infoTLp:(Tryz.prog.info? 76).map (fun i => (i.zero,i.size,i.bytes))=some (some (.slice none 0 0),1,24):=by kernel_rfl
set_option maxHeartbeats 8000000 in
set_option maxRecDepth 100000 in
theorem rparts9_any {M:Nat} (A:Option Addr) (c:Nat) (rs:List Ru) (w:World) (h:SlRep 3 M RRu w (.slice A rs.length c) rs) (hM:M≤9223372036854775807) (hS:Small rs) :
    Calls Tryz.prog 8 #[.agg #[.slice A rs.length c]] w fun e w' => ∃ v out,e = .returned v∧PSpec (· ∈ (drawP rs).names) (Rch (drawP rs)) [] out∧SlRep 1 maxLen (RLs 0 (.slice none 0 0)) w' v out∧Fut w w':=by
 have HE:=Hh (fun W (hW:Fut w W) => redges_any A c rs W (h.fut RRu.stays hW) hM hS);have HN:=Hh (fun W (hW:Fut w W) => rpreds_any A c rs W (h.fut RRu.stays hW) hM hS);have HS:=Hh hS;obtain ⟨T9,tgt,_,_,_,hps⟩:=parts_rules hS;have Hps:=Hh hps;have F0:=Hh (Fut.alloc w (.cells #[.slice A rs.length c] 28));have hbx:=heap_alloc_new w (.cells #[.slice A rs.length c] 28);have c0:=cell_at hbx 0 (.slice A rs.length c) rfl;obtain ⟨wa,hwa⟩:∃ W,w.alloc (.cells #[.slice A rs.length c] 28)=W:=⟨_,rfl⟩
 rw [hwa] at F0 c0;clear h hS hbx hps;go_enter Tryz.func8,Tryz.ntmps8;go_wp2_with fail
 try rw [hwa]
 clear hwa;have hel:=HS.out.edges;obtain ⟨es,hes⟩:∃ es,edgesP rs=es:=⟨_,rfl⟩
 simp only [hes] at hel HE;have hnu:=Hh (sortU_spec totS (drawP rs).names)
 have hnl:(drawP rs).sorted.length≤10000000:=by
  have h1:=draw_len HS.out;have h2:=gsorted_len (drawP rs);have h3:(drawP rs).names.length=(drawP rs).length:=List.length_map _;omega
 obtain ⟨names,hnm⟩:∃ l,(drawP rs).sorted=l:=⟨_,rfl⟩
 have hnu2:Up cmpS names∧∀ x,x ∈ names↔x ∈ (drawP rs).names:=hnm ▸ hnu.out;have HU:=Hh hnu2.1;have HM:=Hh hnu2.2;simp only [hnm] at HN hnl;clear hnu hnu2 hnm;refine wp_graph 4 [.d,.r (fun v W => OwnL 4 w.heap.size tEdge REd W v es),.d,.r (fun v W => Nms w.heap.size W v names)] (by kernel_rfl) (by kernel_rfl) (by kernel_rfl) ?_;simp only [takS,Exs]
 iterate 2 apply Exists.intro
 apply Run.valG (wanted_none rfl _)
 ·intro w1 h1 hk;have q0:=h1.cell c0;have hg:=F0.out.trans ((Fut.drew _).trans h1);have hcw:=fun b o => Below.cell (p:=⟨b,o,none⟩) h1;go_simp;rfl
 simp only [actS];apply Run.callR (wanted_none rfl _) (by intro v w w' hf hs;exact hs.fut REd.stays hf) (fun _ _ => by go_simp;exact ⟨rfl,rfl⟩)
 ·intro w1 h1 hk;have q0:=h1.cell c0;have hg:=F0.out.trans ((Fut.drew _).trans h1);refine (HE.out _ hg).mono ?_;rintro e9 w9 ⟨v9,rfl,ho,hf⟩;exact ⟨_,rfl,hf,ho.base hg.size⟩
 intro v1;simp only [actS];apply Run.valG (wanted_none rfl _)
 ·intro w1 h1 hk;have q0:=h1.cell c0;have hg:=F0.out.trans ((Fut.drew _).trans h1);have hcw:=fun b o => Below.cell (p:=⟨b,o,none⟩) h1;go_simp;rfl
 simp only [actS];apply Run.callR (wanted_none rfl _) (by intro v w w' hf hs;exact hs.fut RNm.stays hf) (fun _ _ => by go_simp;exact ⟨rfl,rfl⟩)
 ·intro w1 h1 hk;have f1:=Facts.get hk 0 rfl (by kernel_rfl);have q0:=h1.cell c0;have hg:=F0.out.trans ((Fut.drew _).trans h1);refine (HN.out _ hg).mono ?_;rintro e9 w9 ⟨v9,rfl,ho,hf⟩;exact ⟨_,rfl,hf,ho.base hg.size⟩
 intro v3;simp only [actS];apply Run.done;intro wN hN hk;obtain ⟨f1,f3,_⟩:=hk;have F2:=Hh (F0.out.trans ((Fut.drew _).trans hN));have HOe:=Hh f1;have HON:=Hh f3;obtain ⟨A1,k1,rfl,_,_⟩:=f1.rep.form;obtain ⟨A2,k2,rfl,_,_⟩:=HON.out.rep.form;have HCT:=Hh (fun p q hr W (hW:Fut wN W) => rcomesT A1 k1 rs es p q W hes ((HOe.out.fut REd.stays hW).rep) (by decide) hel hr);have HCN:=Hh (fun p q hr W (hW:Fut wN W) => rcomesN A1 k1 rs es p q W hes ((HOe.out.fut REd.stays hW).rep) (by decide) hel hr);have HRd:=Hh (fun (Ap:Option Addr) (cp:Nat) (part:List ByteArray) (Ad:Option Addr) (cd:Nat) (D:List ByteArray) W (hW:Fut wN W) (hp:SlRep 1 maxLen RNm W (.slice Ap part.length cp) part) (hd:SlRep 1 maxLen RNm W (.slice Ad D.length cd) D) => rready_any A1 k1 rs es Ap cp part Ad cd D W hes ((HOe.out.fut REd.stays hW).rep) (by decide) hel hp (by decide) hd (by decide));have hnl9:names.length≤9223372036854775807:=by omega
 clear f1 f3 hN HE HN c0 hes;go_wp2_with fail;go_loopw [5,6,7,8,9] (fun vo vi i _ _ W => ∃ (k:Nat) (inn:List ByteArray) (P:List (List ByteArray)),k≤names.length∧i = .int .i64 k∧Hid (GrpI (· ∈ (drawP rs).names) (Rch (drawP rs)) names k inn P)∧Hid inn.Nodup∧Hid (P.length≤k)∧Hid (PgI wN W vi vo inn P)) (fun _ _ i _ _ _ => names.length - (intOf i).toNat)
 case atStart => exact ⟨0,[],[],Nat.zero_le _,rfl,Hh GrpI.start,Hh List.nodup_nil,Hh (Nat.zero_le _),Hh (PgI.start wN)⟩
 case round =>
  obtain ⟨k,inn,P,hk,rfl,hG,hNd,hPl,hI⟩:=hrel;obtain ⟨wq,hwq⟩:∃ x,x=wr:=⟨_,rfl⟩
  subst hwq
  have hil:inn.length≤10000000:=by
   have:=nodup_le hNd.out (hG.out.sub (rch_nm rs) HM.out);omega
  obtain ⟨Ai,ci,rfl,_,_⟩:=hI.out.inn.rep.form
  by_cases hlt:k<names.length
  ·have hltI:(k:Int)<names.length:=by omega
   have e0:(0:Int)≤k∧(k:Int)<names.length:=by omega
   obtain ⟨bn,on,rfl,u0⟩:=nm_at (HON.out.fut RNm.stays hI.out.fut).rep hlt;have Hks:=Hh (show names[k]?=some names[k] from List.getElem?_eq_getElem hlt);have Hu0:=Hh (nm_at HON.out.rep hlt);generalize names[k]=s at *;have HHs:=Hh (rhas9_any s Ai ci inn wq hI.out.inn.rep (by decide))
   by_cases hs:s ∈ inn
   ·rw [decide_eq_true hs] at HHs;have HG2:=Hh (hG.out.skip (rch_tr rs) HU.out Hks.out hs);have HP2:=Hh (show P.length≤k+1 from by have:=hPl.out;omega);clear hG hPl;go_wp2_with fail;refine HHs.out.mono ?_;rintro e w3 ⟨rfl,rfl⟩;go_wp2;go_roundw
    case rel => exact ⟨k+1,inn,P,by omega,by go_num,HG2,hNd,HP2,hI⟩
    case measure => simp [intOf] <;> omega
   ·rw [decide_eq_false hs] at HHs;have Hs:=Hh hs;have HJ0:=Hh hI.out.begin;have HG0:=Hh (Gat.start (R:=Rch (drawP rs)) (names:=names) (s:=s) (i:=k));clear hs;go_wp2_with fail;refine HHs.out.mono ?_;rintro e w3 ⟨rfl,hw3⟩;replace hw3:=hw3.symm;subst hw3;clear HHs;go_wp2_with fail;go_loopw [6,8,9] (fun vi vp i W => ∃ (m:Nat) (pt q:List ByteArray),k≤m∧m≤names.length∧i = .int .i64 m∧Hid (Gat (Rch (drawP rs)) names s k m pt)∧Hid (inn++pt=q)∧Hid (PgJ wN wq W (.slice Ai inn.length ci) vi vp q pt)) (fun _ _ i _ => names.length - (intOf i).toNat)
    case atStart => exact ⟨k,[],inn,Nat.le_refl _,by omega,rfl,HG0,Hh (List.append_nil _),HJ0⟩
    case round =>
     clear HG0 HJ0 u0;obtain ⟨m,pt,q,hkm,hm,rfl,hg,hq,hJ⟩:=hrel;obtain ⟨wz,hwz⟩:∃ x,x=wr:=⟨_,rfl⟩
     subst hwz
     have hptl:pt.length≤10000000:=by
      have:=nodup_le (up9_nodup hg.out.up) hg.out.sub;omega
     have hql:q.length≤20000000:=by rw [← hq.out,List.length_append];omega
     obtain ⟨Av,cv,rfl,_,_⟩:=hJ.out.inn.rep.form;obtain ⟨Ap,cp,rfl,_,_⟩:=hJ.out.part.rep.form;have HFz:=Hh (hJ.out.fin hI.out).fut
     by_cases hlm:m<names.length
     ·have hlmI:(m:Int)<names.length:=by omega
      have e1:(0:Int)≤m∧(m:Int)<names.length:=by omega
      obtain ⟨b3,o3,hb3,xN⟩:=nm_at HON.out.rep hlm;obtain ⟨b4,o4,hb4,u0'⟩:=Hu0.out;injection hb3 with hb3
      injection hb3 with e3 e4 _
      injection hb4 with hb4
      injection hb4 with e5 e6 _
      subst e3;subst e4;subst e5;subst e6;have u0:=HFz.out.cell u0';have x0:=HFz.out.cell xN;have HxN:=Hh xN;have Hmx:=Hh (show names[m]?=some names[m] from List.getElem?_eq_getElem hlm);generalize names[m]=x at *;clear u0' xN
      by_cases hr1:Rch (drawP rs) s x
      ·have HC1:=Hh (fun W (hW:Fut wz W) => HCT.out s x hr1 W (HFz.out.trans hW))
       by_cases hr2:Rch (drawP rs) x s
       ·have HC2:=Hh (fun W (hW:Fut wz W) => HCT.out x s hr2 W (HFz.out.trans hW));have Hg2:=Hh (hg.out.yes HU.out hkm Hmx.out ⟨hr1,hr2⟩);clear hr1 hr2 hg;go_wp2_with fail;refine wp_graph 22 [.d,.d,.d,.d,.d,.d,.d,.d,.d,.d,.d,.d,.d,.d,.d,.d,.d,.d,.d,.d,.d,.d] (by kernel_rfl) (by kernel_rfl) (by kernel_rfl) ?_;simp only [takS,Exs]
        iterate 22 apply Exists.intro
        iterate 4
         apply Run.valG (wanted_none rfl _)
         ·intro w1 h1 hk;go_simp;rfl
         simp only [actS]
        apply Run.valG (wanted_none rfl _)
        ·intro w1 h1 hk;have q0:=h1.cell u0;have q1:=h1.cell x0;have hg:=(Fut.drew _).trans h1;have hcw:=fun b o => Below.cell (p:=⟨b,o,none⟩) h1;go_simp;rfl
        simp only [actS]
        iterate 3
         apply Run.valG (wanted_none rfl _)
         ·intro w1 h1 hk;go_simp;rfl
         simp only [actS]
        apply Run.valG (wanted_none rfl _)
        ·intro w1 h1 hk;have q0:=h1.cell u0;have q1:=h1.cell x0;have hg:=(Fut.drew _).trans h1;have hcw:=fun b o => Below.cell (p:=⟨b,o,none⟩) h1;go_simp;rfl
        simp only [actS];apply Run.call (wanted_none rfl _) (fun _ _ => by go_simp;exact ⟨rfl,rfl⟩)
        ·intro w1 h1 hk;have q0:=h1.cell u0;have q1:=h1.cell x0;have hg:=(Fut.drew _).trans h1;refine (HC1.out _ hg).mono ?_;rintro e9 w9 ⟨rfl,f9⟩;exact ⟨rfl,f9⟩
        simp only [actS];apply Run.valG (wanted_none rfl _)
        ·intro w1 h1 hk;go_simp;rfl
        simp only [actS]
        iterate 4
         apply Run.valG (by go_simp)
         ·intro w1 h1 hk;go_simp;rfl
         simp only [actS]
        apply Run.valG (by go_simp)
        ·intro w1 h1 hk;have q0:=h1.cell u0;have q1:=h1.cell x0;have hg:=(Fut.drew _).trans h1;have hcw:=fun b o => Below.cell (p:=⟨b,o,none⟩) h1;go_simp;rfl
        simp only [actS]
        iterate 3
         apply Run.valG (by go_simp)
         ·intro w1 h1 hk;go_simp;rfl
         simp only [actS]
        apply Run.valG (by go_simp)
        ·intro w1 h1 hk;have q0:=h1.cell u0;have q1:=h1.cell x0;have hg:=(Fut.drew _).trans h1;have hcw:=fun b o => Below.cell (p:=⟨b,o,none⟩) h1;go_simp;rfl
        simp only [actS];apply Run.call (by go_simp) (fun _ _ => by go_simp;exact ⟨rfl,rfl⟩)
        ·intro w1 h1 hk;have q0:=h1.cell u0;have q1:=h1.cell x0;have hg:=(Fut.drew _).trans h1;refine (HC2.out _ hg).mono ?_;rintro e9 w9 ⟨rfl,f9⟩;exact ⟨rfl,f9⟩
        simp only [actS];apply Run.valG (wanted_none rfl _)
        ·intro w1 h1 hk;go_simp;rfl
        simp only [actS];apply Run.done;intro wS hS9 hk;clear hk;have fs:=(Fut.drew _).trans hS9;have HJ2:=Hh (hJ.out.later fs);have xs0:=fs.cell x0;have hszs:=(HFz.out.trans fs).size;have hszq:=HJ2.out.on.size;clear fs hS9 HC1 HC2 u0 x0 hJ;go_wp2_with (first|(at_builtin;refine wpList_append_LB (R:=RNm) (B:=wq.heap.size) (M:=1) (xs:=pt) (ys:=[x]) (e:=9) (by go_simp) _ _ tVl' rfl Tryz.underlying76 (.string ⟨#[]⟩) 16 infoNm rfl (by decide) RNm.one RNm.keeps rfl rfl (HJ2.out.part.fut RNm.stays (Fut.alloc _ _)) (nmOne _ _ _) ?l3 ?m3 ?b3 ?k3))
        case l3 => simp [maxLen];omega
        case m3 => simp;omega
        case b3 => simp;omega
        case k3 =>
        intro vp' wp op gp sp;obtain ⟨pt2,hpt2⟩:∃ p,pt++[x]=p:=⟨_,rfl⟩
        rw [hpt2] at op Hg2;have HJ3:=Hh ((HJ2.out.later (Fut.alloc wS (.cells #[.string x] 9))).pushPart op gp sp);have Fp:=Hh (HJ3.out.fin hI.out).fut;have hszp:=Fp.out.size;have xs1:=Fp.out.cell HxN.out;obtain ⟨A7,c7,rfl,_,_⟩:=op.rep.form;clear op gp sp xs0 HJ2;go_wp2_with (first|(at_builtin;refine wpList_append_LB (R:=RNm) (B:=wN.heap.size) (M:=1) (xs:=q) (ys:=[x]) (e:=9) (by go_simp) _ _ tVl' rfl Tryz.underlying76 (.string ⟨#[]⟩) 16 infoNm rfl (by decide) RNm.one RNm.keeps rfl rfl (HJ3.out.inn.fut RNm.stays (Fut.alloc _ _)) (nmOne _ _ _) ?l4 ?m4 ?b4 ?k4))
        case l4 => simp [maxLen];omega
        case m4 => simp;omega
        case b4 => simp;omega
        case k4 =>
        intro vi' wi oi gi si;have HJ4:=Hh (show PgJ wN wq wi (.slice Ai inn.length ci) vi' _ (q++[x]) pt2 from (HJ3.out.later (Fut.alloc wp (.cells #[.string x] 9))).pushIn oi gi si);have Hq2:=Hh (show inn++pt2=q++[x] from by rw [← hpt2,← hq.out,List.append_assoc]);clear oi gi si xs1 HJ3;go_wp2;go_roundw
        case rel => exact ⟨m+1,pt2,q++[x],by omega,by omega,by go_num,Hg2,Hq2,HJ4⟩
        case measure => simp [intOf] <;> omega
       ·have HC2:=Hh (fun W (hW:Fut wz W) => HCN.out x s hr2 W (HFz.out.trans hW));have Hg2:=Hh (hg.out.no hkm Hmx.out (fun h9 => hr2 h9.2));clear hr1 hr2 hg;go_wp2_with fail;refine wp_graph 22 [.d,.d,.d,.d,.d,.d,.d,.d,.d,.d,.d,.d,.d,.d,.d,.d,.d,.d,.d,.d,.d,.d] (by kernel_rfl) (by kernel_rfl) (by kernel_rfl) ?_;simp only [takS,Exs]
        iterate 22 apply Exists.intro
        iterate 4
         apply Run.valG (wanted_none rfl _)
         ·intro w1 h1 hk;go_simp;rfl
         simp only [actS]
        apply Run.valG (wanted_none rfl _)
        ·intro w1 h1 hk;have q0:=h1.cell u0;have q1:=h1.cell x0;have hg:=(Fut.drew _).trans h1;have hcw:=fun b o => Below.cell (p:=⟨b,o,none⟩) h1;go_simp;rfl
        simp only [actS]
        iterate 3
         apply Run.valG (wanted_none rfl _)
         ·intro w1 h1 hk;go_simp;rfl
         simp only [actS]
        apply Run.valG (wanted_none rfl _)
        ·intro w1 h1 hk;have q0:=h1.cell u0;have q1:=h1.cell x0;have hg:=(Fut.drew _).trans h1;have hcw:=fun b o => Below.cell (p:=⟨b,o,none⟩) h1;go_simp;rfl
        simp only [actS];apply Run.call (wanted_none rfl _) (fun _ _ => by go_simp;exact ⟨rfl,rfl⟩)
        ·intro w1 h1 hk;have q0:=h1.cell u0;have q1:=h1.cell x0;have hg:=(Fut.drew _).trans h1;refine (HC1.out _ hg).mono ?_;rintro e9 w9 ⟨rfl,f9⟩;exact ⟨rfl,f9⟩
        simp only [actS];apply Run.valG (wanted_none rfl _)
        ·intro w1 h1 hk;go_simp;rfl
        simp only [actS]
        iterate 4
         apply Run.valG (by go_simp)
         ·intro w1 h1 hk;go_simp;rfl
         simp only [actS]
        apply Run.valG (by go_simp)
        ·intro w1 h1 hk;have q0:=h1.cell u0;have q1:=h1.cell x0;have hg:=(Fut.drew _).trans h1;have hcw:=fun b o => Below.cell (p:=⟨b,o,none⟩) h1;go_simp;rfl
        simp only [actS]
        iterate 3
         apply Run.valG (by go_simp)
         ·intro w1 h1 hk;go_simp;rfl
         simp only [actS]
        apply Run.valG (by go_simp)
        ·intro w1 h1 hk;have q0:=h1.cell u0;have q1:=h1.cell x0;have hg:=(Fut.drew _).trans h1;have hcw:=fun b o => Below.cell (p:=⟨b,o,none⟩) h1;go_simp;rfl
        simp only [actS];apply Run.call (by go_simp) (fun _ _ => by go_simp;exact ⟨rfl,rfl⟩)
        ·intro w1 h1 hk;have q0:=h1.cell u0;have q1:=h1.cell x0;have hg:=(Fut.drew _).trans h1;refine (HC2.out _ hg).mono ?_;rintro e9 w9 ⟨rfl,f9⟩;exact ⟨rfl,f9⟩
        simp only [actS];apply Run.valG (wanted_none rfl _)
        ·intro w1 h1 hk;go_simp;rfl
        simp only [actS];apply Run.done;intro wS hS9 hk;clear hk;have HJ2:=Hh (hJ.out.later ((Fut.drew _).trans hS9));clear hS9 HC1 HC2 u0 x0 hJ;go_wp2;go_roundw
        case rel => exact ⟨m+1,pt,q,by omega,by omega,by go_num,Hg2,hq,HJ2⟩
        case measure => simp [intOf] <;> omega
      ·have HC1:=Hh (fun W (hW:Fut wz W) => HCN.out s x hr1 W (HFz.out.trans hW));have Hg2:=Hh (hg.out.no hkm Hmx.out (fun h9 => hr1 h9.1));clear hr1 hg;go_wp2_with fail;refine wp_graph 22 [.d,.d,.d,.d,.d,.d,.d,.d,.d,.d,.d,.d,.d,.d,.d,.d,.d,.d,.d,.d,.d,.d] (by kernel_rfl) (by kernel_rfl) (by kernel_rfl) ?_;simp only [takS,Exs]
       iterate 22 apply Exists.intro
       iterate 4
        apply Run.valG (wanted_none rfl _)
        ·intro w1 h1 hk;go_simp;rfl
        simp only [actS]
       apply Run.valG (wanted_none rfl _)
       ·intro w1 h1 hk;have q0:=h1.cell u0;have q1:=h1.cell x0;have hg:=(Fut.drew _).trans h1;have hcw:=fun b o => Below.cell (p:=⟨b,o,none⟩) h1;go_simp;rfl
       simp only [actS]
       iterate 3
        apply Run.valG (wanted_none rfl _)
        ·intro w1 h1 hk;go_simp;rfl
        simp only [actS]
       apply Run.valG (wanted_none rfl _)
       ·intro w1 h1 hk;have q0:=h1.cell u0;have q1:=h1.cell x0;have hg:=(Fut.drew _).trans h1;have hcw:=fun b o => Below.cell (p:=⟨b,o,none⟩) h1;go_simp;rfl
       simp only [actS];apply Run.call (wanted_none rfl _) (fun _ _ => by go_simp;exact ⟨rfl,rfl⟩)
       ·intro w1 h1 hk;have q0:=h1.cell u0;have q1:=h1.cell x0;have hg:=(Fut.drew _).trans h1;refine (HC1.out _ hg).mono ?_;rintro e9 w9 ⟨rfl,f9⟩;exact ⟨rfl,f9⟩
       simp only [actS];apply Run.valG (wanted_none rfl _)
       ·intro w1 h1 hk;go_simp;rfl
       simp only [actS]
       iterate 10
        apply Run.skip (by first|(go_simp;done)|(go_simp;exact fun h => nomatch h));simp only [actS]
       apply Run.valG (wanted_none rfl _)
       ·intro w1 h1 hk;go_simp;rfl
       simp only [actS];apply Run.done;intro wS hS9 hk;clear hk;have HJ2:=Hh (hJ.out.later ((Fut.drew _).trans hS9));clear hS9 HC1 u0 x0 hJ;go_wp2;go_roundw
       case rel => exact ⟨m+1,pt,q,by omega,by omega,by go_num,Hg2,hq,HJ2⟩
       case measure => simp [intOf] <;> omega
     ·obtain rfl:m=names.length:=by omega
      have HI2:=Hh (hJ.out.fin hI.out);have Hpart:=Hh hJ.out.part;have Hne:=Hh hJ.out.ne;have HG2:=Hh (hq.out ▸ hG.out.take (fun u => Rch.refl u) (rch_tr rs) (rch_nm rs) HU.out HM.out Hks.out Hs.out hg.out.fin hg.out.up);have HNd2:=Hh (hq.out ▸ hG.out.once (rch_tr rs) Hs.out hNd.out hg.out (up9_nodup hg.out.up));have hszq:=hI.out.fut.size;have hszz:=HFz.out.size;have hP9:P.length≤10000000:=by have:=hPl.out;omega
      obtain ⟨Ao,co,rfl,_,_⟩:=HI2.out.out.rep.form;clear hJ hg hG hNd hI;go_wp2_with (first|(at_builtin;refine wpList_append_LB (R:=RLs wN.heap.size (.slice Av q.length cv)) (B:=wN.heap.size) (M:=1) (xs:=P) (ys:=[pt]) (e:=76) (by go_simp) _ _ tLL rfl Tryz.underlying25 (.slice none 0 0) 24 infoTLp rfl (by decide) RLs.one RLs.keeps rfl rfl (HI2.out.out.fut RLs.stays (Fut.alloc _ _)) (llOne _ _ Hpart.out hszq Hne.out) ?l5 ?m5 ?b5 ?k5))
      case l5 => simp [maxLen];omega
      case m5 => simp;omega
      case b5 => simp;omega
      case k5 =>
      intro vo' wo oo go so;have HI3:=Hh ((HI2.out.later (Fut.alloc wz (.cells #[.slice Ap pt.length cp] 76))).push oo go);have HP3:=Hh (show (P++[pt]).length≤k+1 from by rw [List.length_append,List.length_singleton];have:=hPl.out;omega);clear oo go so HI2;go_wp2;go_roundw
      case rel => exact ⟨k+1,q,P++[pt],by omega,by go_num,HG2,HNd2,HP3,HI3⟩
      case measure => simp [intOf] <;> omega
  ·obtain rfl:k=names.length:=by omega
   have HCl:=Hh (hG.out.done HM.out);have hlenP:=Hh (HCl.out.len Hps.out);have htl:tgt.length≤10000000:=by have:=hPl.out;have:=hlenP.out;omega
   have HPart:=Hh hI.out.out.rep;have Fq:=Hh hI.out.fut;obtain ⟨Ao,co,rfl,_,_⟩:=hI.out.out.rep.form;have hPl9:P.length≤9223372036854775807:=by have:=hlenP.out;omega
   clear hG hNd hPl hI;go_wp2_with fail;go_loopw [10,11,12] (fun vo vs _ W => ∃ n:Nat,n≤tgt.length∧Hid (Fut wq W)∧Hid (OwnL 1 wq.heap.size 76 (Fix (RLs 0 (.slice none 0 0)) wq) W vo (tgt.take n))∧Hid (Nms wq.heap.size W vs (tgt.take n).flatten)) (fun vo _ _ _ => tgt.length - slLen vo)
   case atStart => exact ⟨0,Nat.zero_le _,Hh (Fut.refl _),Hh OwnL.nil,Hh OwnL.nil⟩
   case round =>
    obtain ⟨n,hn,hF,hO,hD⟩:=hrel;obtain ⟨wz,hwz⟩:∃ x,x=wr:=⟨_,rfl⟩
    subst hwz;obtain ⟨A1,c1,hv1,_,_⟩:=hO.out.rep.form;rw [List.length_take,Nat.min_eq_left hn] at hv1;subst hv1;have hDl:=parts_len HS.out Hps.out n;obtain ⟨D,hDD⟩:∃ D,(tgt.take n).flatten=D:=⟨_,rfl⟩
    rw [hDD] at hD hDl;have HDD:=Hh hDD;obtain ⟨A3,c3,rfl,_,_⟩:=hD.out.rep.form;clear hDD
    by_cases hlt:n<tgt.length
    ·have hltN:n<P.length:=by have:=hlenP.out;omega
     have hltI:(n:Int)<(P.length:Int):=by have:=hlenP.out;omega
     obtain ⟨p,hp⟩:∃ p,tgt[n]?=some p:=⟨_,List.getElem?_eq_getElem hlt⟩
     have hpk:=HCl.out.pick Hps.out hp;rw [HDD.out] at hpk;obtain ⟨⟨i0,hi0,hbf⟩,hno,hrd⟩:=hpk;have hi0l:i0<P.length:=(List.getElem?_eq_some_iff.1 hi0).1;have Hbf:=Hh hbf;have Hno:=Hh hno;have Hrd:=Hh hrd;have Hi0:=Hh hi0;have Hp:=Hh hp;have hF0:=Hh (Fut.refl wz);clear hbf hno hrd hp hi0;go_wp2_with fail;go_loopw [10,11,12] (fun vo vs i W => ∃ j:Nat,j≤i0∧i = .int .i64 j∧vo = .slice A1 n c1∧vs = .slice A3 D.length c3∧Hid (Fut wz W)) (fun _ _ i _ => P.length - (intOf i).toNat)
     case atStart => exact ⟨0,Nat.zero_le _,rfl,rfl,rfl,hF0⟩
     case round =>
      obtain ⟨j,hj,rfl,rfl,rfl,hG⟩:=hrel;obtain ⟨wy,hwy⟩:∃ x,x=wr:=⟨_,rfl⟩
      subst hwy;have hjl:j<P.length:=by omega
      have hjlI:(j:Int)<P.length:=by omega
      have e0:(0:Int)≤j∧(j:Int)<P.length:=by omega
      have HFy:=Hh (hF.out.trans hG.out);obtain ⟨bj,oj,vj,rfl,zj,hvj⟩:=ls_at HPart.out hjl;have Hq:=Hh (show P[j]?=some P[j] from List.getElem?_eq_getElem hjl);have hqc:=HCl.out.cls _ (List.getElem_mem hjl);generalize P[j]=q at *;have hql0:0<q.length:=List.length_pos_iff.2 hqc.1;obtain ⟨gj,pj,cj,rfl,xj⟩:=headN_at hvj hqc.1;have hql0I:(0:Int)<q.length:=by omega
      have Hvj:=Hh hvj;have zj1:=HFy.out.cell zj;have xj1:=HFy.out.cell xj;have Hzj:=Hh zj;have hqh:q.headD ⟨#[]⟩=hdP q:=rfl;rw [hqh] at xj1;have hD':=Hh (hD.out.fut RNm.stays hG.out);have HHs:=Hh (rhas9_any (hdP q) A3 c3 D wy hD'.out.rep (by decide));have HRy:=Hh (HRd.out (some ⟨gj,pj,none⟩) cj q A3 c3 D wy (Fq.out.trans HFy.out) (hvj.fut RNm.stays HFy.out).rep hD'.out.rep)
      have hqm:=Hh (show q.length≤10000001 from by
       have h9:=Hq.out;have h8:=(HCl.out.mem Hps.out q).1 (List.mem_of_getElem? h9);obtain ⟨i9,hi9⟩:=List.getElem?_of_mem h8;have:=part_len HS.out Hps.out hi9;omega)
      clear hvj zj xj hqh hqc
      by_cases hji:j<i0
      ·by_cases hin:hdP q ∈ D
       ·rw [decide_eq_true hin] at HHs;clear hin HRy;generalize hdP q=hq9 at *;go_wp2_with fail;refine HHs.out.mono ?_;rintro e w9 ⟨rfl,rfl⟩;go_wp2;go_roundw
        case rel => exact ⟨j+1,by omega,by go_num,rfl,rfl,hG⟩
        case measure => simp [intOf] <;> omega
       ·rw [decide_eq_false hin] at HHs;have hnr:=(Hbf.out j q hji Hq.out).resolve_left hin;have Hnr:=Hh hnr;clear hin hnr;generalize hdP q=hq9 at *;go_wp2_with fail;refine HHs.out.mono ?_;rintro e w9 ⟨rfl,hw9⟩;replace hw9:=hw9.symm;subst hw9;go_wp2_with fail;refine HRy.out.mono ?_;rintro e w8 ⟨b,rfl,hb,f8⟩
        obtain rfl:b=false:=by
         cases b
         ·rfl
         ·exact absurd (hb.1 rfl) Hnr.out
        have hG8:=Hh (hG.out.trans f8);clear hb f8;go_wp2;go_roundw
        case rel => exact ⟨j+1,by omega,by go_num,rfl,rfl,hG8⟩
        case measure => simp [intOf] <;> omega
      ·obtain rfl:j=i0:=by omega
       obtain rfl:q=p:=Option.some.inj (Hq.out.symm.trans Hi0.out);rw [decide_eq_false Hno.out] at HHs;generalize hdP q=hq9 at *;go_wp2_with fail;refine HHs.out.mono ?_;rintro e w9 ⟨rfl,hw9⟩;replace hw9:=hw9.symm;subst hw9;go_wp2_with fail;refine HRy.out.mono ?_;rintro e w8 ⟨b,rfl,hb,f8⟩;obtain rfl:b=true:=hb.2 Hrd.out;have HF8:=Hh (HFy.out.trans f8);have HO8:=Hh (hO.out.fut (fun _ _ _ _ _ h => h) (hG.out.trans f8));have HD8:=Hh (hD'.out.fut RNm.stays f8);have zj8:=HF8.out.cell Hzj.out;have hsz8:=HF8.out.size;have hnl8:(tgt.take n).length≤10000000:=by rw [List.length_take];omega
       have hnt:=Hh (show tgt.take (n+1)=tgt.take n++[q] from by
        obtain ⟨h1,h2⟩:=List.getElem?_eq_some_iff.1 Hp.out;rw [List.take_succ_eq_append_getElem h1,h2])
       have Hel:=Hh (show RLs 0 (.slice none 0 0) wq [.slice (some ⟨gj,pj,none⟩) q.length cj] q from ⟨_,rfl,Hvj.out.base (Nat.zero_le _),fun k _ e => by cases e⟩);clear hb f8 zj1 xj1 HHs HRy hO hD hD';go_wp2_with (first|(at_builtin;refine wpList_append_LB (R:=Fix (RLs 0 (.slice none 0 0)) wq) (B:=wq.heap.size) (M:=1) (xs:=tgt.take n) (ys:=[q]) (e:=76) (by go_simp) _ _ tLL rfl Tryz.underlying25 (.slice none 0 0) 24 infoTLp rfl (by decide) (fun _ cs x h => RLs.one wq cs x h) (Fix.keeps _ _ _) rfl rfl (HO8.out.fut (fun _ _ _ _ _ h => h) (Fut.alloc _ _)) (slOne _ [.slice (some ⟨gj,pj,none⟩) q.length cj] q _ rfl Hel.out) ?l6 ?m6 ?b6 ?k6))
       case l6 => simp [maxLen];omega
       case m6 => simp;omega
       case b6 => simp;omega
       case k6 =>
       intro vo' wo oo go so;have fo:=(Fut.alloc w8 (.cells #[.slice (some ⟨gj,pj,none⟩) q.length cj] 76))
       have HFo:=Hh ((HF8.out.trans fo).grown go (fun k hk => (HO8.out.block k hk).1));have HDo:=Hh (OwnL.kept (w':=wo) (HD8.out.fut RNm.stays fo) (fun _ _ h => h) go (fun k hk => (HO8.out.fut (fun _ _ _ _ _ h => h) fo).typed k hk) (by decide));have HOo:=Hh (show OwnL 1 wq.heap.size 76 (Fix (RLs 0 (.slice none 0 0)) wq) wo vo' (tgt.take (n+1)) from by rw [hnt.out];exact oo);have zjo:=HFo.out.cell Hzj.out;have hszo:=HFo.out.size;have Hrq:=Hh (Hvj.out.fut RNm.stays HFo.out).rep;clear oo go so fo HO8 HD8 zj8;go_wp2_with (first|(at_builtin;refine wpList_append_LB (R:=RNm) (B:=wq.heap.size) (M:=maxLen) (xs:=D) (ys:=q) (e:=9) (by go_simp) _ _ tVl' rfl Tryz.underlying76 (.string ⟨#[]⟩) 16 infoNm rfl (by decide) RNm.one RNm.keeps rfl rfl HDo.out Hrq.out ?l7 ?m7 ?b7 ?k7))
       case l7 => have h9:=hqm.out;unfold maxLen;omega
       case m7 => have h9:=hqm.out;omega
       case b7 => omega
       case k7 =>
       intro vs' ws os gs ss;have HFs:=Hh (HFo.out.grown gs (fun k hk => (HDo.out.block k hk).1));have HOs:=Hh (OwnL.kept (w':=ws) HOo.out (fun _ _ h => h) gs (fun k hk => HDo.out.typed k hk) (by decide))
       have HDs:=Hh (show Nms wq.heap.size ws vs' (tgt.take (n+1)).flatten from by
        rw [hnt.out,List.flatten_append,HDD.out];simpa using os)
       obtain ⟨A9,c9,hv9,_,_⟩:=HOs.out.rep.form;rw [List.length_take,Nat.min_eq_left hlt] at hv9;subst hv9;clear os gs ss HDo HOo zjo;go_wp2;go_roundw
       case rel => exact ⟨n+1,by omega,HFs,HOs,HDs⟩
       case measure => simp [slLen] <;> omega
    ·obtain rfl:n=tgt.length:=by omega
     have hltI:¬ (tgt.length:Int)<(P.length:Int):=by have:=hlenP.out;omega
     have hltN:¬ tgt.length<P.length:=by have:=hlenP.out;omega
     rw [List.take_length] at hO;go_wp2;go_ret
     first|exact ⟨_,tgt,rfl,Hps.out,(hO.out.unfix RLs.stays hF.out).rep,F2.out.trans (Fq.out.trans hF.out)⟩|exact ⟨_,rfl,tgt,Hps.out,(hO.out.unfix RLs.stays hF.out).rep,F2.out.trans (Fq.out.trans hF.out)⟩
end Go.Proofs.YtobabnpllokkaaaGreatDoor
namespace Go.Proofs.YtobabnpllokkaaaGreatDoor
open Go.RowKit
structure Hd where
 l:Value
 long:Value
 n:Int
def Hd.cells (h:Hd):List Value:=[h.l,h.long,.int .i64 h.n]
def RH (_:World) (cs:List Value) (h:Hd):Prop:=cs=h.cells∧(∃ A n c,h.l = .slice A n c)∧∃ A n c,h.long = .slice A n c
theorem RH.stays:Stays RH:=fun _ _ _ _ _ h => h
theorem RH.one:∀ (w:World) cs x,RH w cs x→∀ u ∈ cs,u.oneCell'=true:=fun w cs x h u hu => by
 obtain ⟨rfl,⟨A,n,c,h1⟩,A',n',c',h2⟩:=h;simp only [Hd.cells,List.mem_cons,List.not_mem_nil,or_false] at hu;rcases hu with rfl|rfl|rfl
 ·rw [h1];rfl
 ·rw [h2];rfl
 ·rfl
theorem set_some {α:Type} {l:List α} {k i:Nat} {a x:α} (h:(l.set k a)[i]?=some x):(k=i∧x=a)∨(k≠i∧l[i]?=some x):=by
 by_cases hki:k=i
 ·subst hki;have h2:=(List.getElem?_eq_some_iff.1 h).2;rw [List.getElem_set_self] at h2;exact .inl ⟨rfl,h2.symm⟩
 ·rw [List.getElem?_set_ne hki] at h;exact .inr ⟨hki,h⟩
theorem flatten_set {sz:Nat} {css:List (List Value)} (hs:∀ (i:Nat) (cs:List Value),css[i]?=some cs→cs.length=sz) {k:Nat} (hk:k<css.length) {cs:List Value} (hc:cs.length=sz) (j:Nat) :
    (css.set k cs).flatten[j]?=if k * sz≤j∧j<k * sz+sz then cs[j - k * sz]? else css.flatten[j]?:=by
 have hs':∀ (i:Nat) (ds:List Value),(css.set k cs)[i]?=some ds→ds.length=sz:=fun i ds hi => by
  rcases set_some hi with ⟨_,rfl⟩|⟨_,h⟩
  ·exact hc
  ·exact hs i ds h
 by_cases hz:sz=0
 ·subst hz;rw [if_neg (by omega)];have e1:=flatten_len hs';have e2:=flatten_len hs;rw [List.getElem?_eq_none (by omega),List.getElem?_eq_none (by omega)]
 by_cases hj:j<css.length * sz
 ·have hq:j / sz<css.length:=Nat.div_lt_of_lt_mul (by rw [Nat.mul_comm];exact hj);have hr:j % sz<sz:=Nat.mod_lt _ (by omega);have hd:j / sz * sz+j % sz=j:=by rw [Nat.mul_comm];exact Nat.div_add_mod j sz
  by_cases hqk:j / sz=k
  ·rw [if_pos (by rw [← hqk];omega)];have h1:(css.set k cs)[k]?=some cs:=by rw [List.getElem?_set];simp [hk]
   have h2:cs[j % sz]?=some (cs[j % sz]'(by omega)):=List.getElem?_eq_getElem (by omega);have h3:=flatten_at hs' k (j % sz) cs _ h1 h2;rw [← hqk,hd] at h3;rw [← hqk,h3,show j - j / sz * sz=j % sz by omega,h2]
  ·rw [if_neg (fun h => hqk (by
     obtain ⟨h1,h2⟩:=h;refine Nat.div_eq_of_lt_le h1 ?_;rw [Nat.add_mul];omega))]
   have h1:css[j / sz]?=some (css[j / sz]'hq):=List.getElem?_eq_getElem hq;have h1':(css.set k cs)[j / sz]?=some (css[j / sz]'hq):=by rw [List.getElem?_set_ne (fun e => hqk e.symm)];exact h1
   have hl:=hs _ _ h1;have h2:(css[j / sz]'hq)[j % sz]?=some ((css[j / sz]'hq)[j % sz]'(by omega)):=List.getElem?_eq_getElem (by omega);have h3:=flatten_at hs' _ _ _ _ h1' h2;have h4:=flatten_at hs _ _ _ _ h1 h2;rw [hd] at h3 h4;rw [h3,h4]
 ·have e1:=flatten_len hs';have e2:=flatten_len hs;rw [List.length_set] at e1
  have hks:k * sz+sz≤css.length * sz:=by
   have:=Nat.mul_le_mul_right sz (show k+1≤css.length from hk)
   rwa [Nat.add_mul,Nat.one_mul] at this
  rw [if_neg (by omega),List.getElem?_eq_none (by omega),List.getElem?_eq_none (by omega)]
section
variable {α:Type} {sz B M:Nat} {e:TypeId} {R:World→List Value→α→Prop} {w w':World} {v u:Value} {xs ys:List α}
theorem OwnL.write {g o n cap:Nat} (h:OwnL sz B e R w (Value.slice (some ⟨g,o,none⟩) n cap) xs) {arr arr':Array Value} (hg:w.heap[g]?=some (Obj.cells arr e (0,0))) (hg':w'.heap[g]?=some (Obj.cells arr' e (0,0))) {k:Nat} (hk:k<xs.length) {cs:List Value} {y:α}
    (ha:∀ j,arr'[j]?=if k * sz≤j∧j<k * sz+sz then cs[j - k * sz]? else arr[j]?) (hcl:cs.length=sz) (hy:R w' cs y) (hR:∀ cs x,R w cs x→R w' cs x):OwnL sz B e R w' (Value.slice (some ⟨g,o,none⟩) n cap) (xs.set k y):=by
 obtain ⟨css,h1,h2,h3,h4⟩:=h;rcases h4 with ⟨h4,_⟩|⟨g0,cap0,cur,hv,a2,a3,a4,a5,a6,a7⟩
 ·cases h4
 injection hv with hv1 hv2 hv3
 injection hv1 with hv1
 injection hv1 with hv4 hv5
 subst hv2 hv3 hv4 hv5;rw [hg] at a3;injection a3 with a3
 injection a3 with a3
 subst a3
 have hs:∀ (i:Nat) (cs:List Value),css[i]?=some cs→cs.length=sz:=fun i cs hi => by
  have hl:i<css.length:=(List.getElem?_eq_some_iff.1 hi).1;exact (h2 i cs _ hi (List.getElem?_eq_getElem (by omega))).1
 have hkc:k<css.length:=by omega
 have hsz:arr'.size=arr.size:=by
  have hks:k * sz+sz≤arr.size:=by
   have:=Nat.mul_le_mul_right sz (show k+1≤cap by omega);rw [Nat.add_mul,Nat.one_mul] at this;omega
  have q1:=ha arr.size;rw [if_neg (by omega),Array.getElem?_eq_none (Nat.le_refl _)] at q1;have q2:=Array.getElem?_eq_none_iff.1 q1;rcases Nat.lt_or_ge arr'.size arr.size with q3|q3
  ·have q4:=ha arr'.size;rw [Array.getElem?_eq_none (Nat.le_refl _)] at q4
   split at q4
   ·rename_i q5;rw [List.getElem?_eq_getElem (by omega)] at q4;cases q4
   ·rw [Array.getElem?_eq_getElem q3] at q4;cases q4
  ·omega
 have hfl:(css.set k cs).flatten.length=xs.length * sz:=by
  rw [flatten_len (sz:=sz),List.length_set,h1];intro i ds hi;rcases set_some hi with ⟨_,rfl⟩|⟨_,h⟩
  ·exact hcl
  ·exact hs i ds h
 refine ⟨css.set k cs,by simp [h1],fun i ds x hi hx => ?_,by rw [List.length_set];exact hfl,.inr ⟨g,cap,arr',?_,a2,hg',by rw [List.length_set];exact a4,a5,by rw [hsz];exact a6,?_⟩⟩
 ·rcases set_some hi with ⟨h5,rfl⟩|⟨h5,h6⟩
  ·rcases set_some hx with ⟨_,rfl⟩|⟨h7,_⟩
   ·exact ⟨hcl,hy⟩
   ·exact absurd h5 h7
  ·rcases set_some hx with ⟨h7,_⟩|⟨_,h8⟩
   ·exact absurd h7 h5
   ·exact ⟨(h2 i ds x h6 h8).1,hR _ _ (h2 i ds x h6 h8).2⟩
 ·rw [List.length_set]
 ·rw [List.length_set];refine List.ext_getElem? fun j => ?_;rw [flatten_set hs hkc hcl,List.getElem?_take]
  by_cases hj:j<xs.length * sz
  ·rw [if_pos hj,Array.getElem?_toList,ha]
   split
   ·rfl
   ·have q:=congrArg (fun l => l[j]?) a7;simp only [List.getElem?_take,if_pos hj,Array.getElem?_toList] at q;exact q
  ·rw [if_neg hj]
   have hks:k * sz+sz≤xs.length * sz:=by
    have:=Nat.mul_le_mul_right sz (show k+1≤xs.length from hk)
    rwa [Nat.add_mul,Nat.one_mul] at this
   rw [if_neg (by omega),List.getElem?_eq_none (by rw [flatten_len hs,h1];omega)]
theorem SlRep.prefix {A:Option Addr} {n cap m cap' M':Nat} (h:SlRep sz M R w (.slice A n cap) ys) (hm:m≤ys.length) (hc:m≤cap') (hM:cap'≤M'):SlRep sz M' R w (.slice A m cap') (ys.take m):=by
 obtain ⟨A1,cap1,hv,h1,h2,h3⟩:=h;injection hv with hv _ _
 refine ⟨A,cap',by rw [List.length_take,Nat.min_eq_left hm],by rw [List.length_take];omega,hM,fun i x hx => ?_⟩;rw [List.getElem?_take] at hx
 split at hx
 ·obtain ⟨b,off,cs,k1,k2,k3⟩:=h3 i x hx;exact ⟨b,off,cs,hv.trans k1,k2,k3⟩
 ·cases hx
end
section
variable {α:Type} {sz B M:Nat} {e e':TypeId} {R:World→List Value→α→Prop} {w w':World} {v:Value} {xs:List α}
theorem run_append1 {P:Program} (t ty:TypeId) (i:TypeInfo) (z:Value) (bytes:Nat) (ht:P.underlying t=some (.slice e)) (hi:P.info? e=some i) (hz:i.zero=some z) (hsize:i.size=sz) (hby:i.bytes=bytes) (hzs:z.cells.size=sz) (hsz:0<sz)
    (hR1:∀ w cs x,R w cs x→∀ u ∈ cs,u.oneCell'=true) (hRk:∀ w' cs (x:α),R w cs x→w.grownBy w' v.ownBlock→R w' cs x)
    (h:OwnL sz B e R w v xs) {b:Nat} {cs:List Value} {y:α} (hb:w.heap[b]?=some (Obj.cells cs.toArray e' (0,0))) (hcl:cs.length=sz) (hy:R w cs y) (h63:xs.length+1≤maxLen) (hbytes:(xs.length+1) * bytes≤140737488355328) (hbase:B≤w.heap.size) :
    ∃ v' w',(Builtin.append_ #[t,t] ty #[v,.slice (some ⟨b,0,none⟩) 1 1]).run P w = .ok v' w'∧OwnL sz B e R w' v' (xs++[y])∧w.grownBy w' v.ownBlock∧(v'.ownBlock=v.ownBlock∨v'.ownBlock=some w.heap.size∧w.grownBy w' none):=by
 have hcell:∀ j c,cs[j]?=some c→w.cell? ⟨b,j,none⟩=some c:=fun j c hj => by simp [World.cell?,hb,hj]
 have hu:SlRep sz 1 R w (.slice (some ⟨b,0,none⟩) 1 1) [y]:=by
  refine ⟨_,1,rfl,Nat.le_refl _,Nat.le_refl _,fun k x hx => ?_⟩
  have hk:k=0:=by
   have:=(List.getElem?_eq_some_iff.1 hx).1;simp at this;omega
  subst hk;simp only [List.getElem?_cons_zero,Option.some.injEq] at hx;subst hx;exact ⟨b,0,cs,rfl,hcl,fun j c hj => by rw [show 0+(0 * sz+j)=j by omega];exact hcell j c hj,hy⟩
 obtain ⟨v',w',r1,r2,r3,r5⟩:=run_append_list_at (P:=P) t ty i z bytes ht hi hz hsize hby hzs hsz hR1 hRk h hu h63 hbytes hbase;refine ⟨v',w',r1,r2,r3,?_⟩;rcases r5 with r5|r5
 ·exact .inl r5
 obtain ⟨css,h1,h2,h3⟩:=h;have h3':=h3;obtain ⟨h4,h5⟩:=h3;rcases h5 with ⟨rfl,h6⟩|⟨g,cap,cur,rfl,a2,a3,a4,a5,a6,a7⟩
 ·exact .inr ⟨r5,r3⟩
 subst hsize
 have hadd:∀ j c,cs[j]?=some c→w.cell? ((⟨b,0,none⟩:Addr).add j)=some c:=fun j c hj => by
  rw [show (⟨b,0,none⟩:Addr).add j=⟨b,j,none⟩ by rw [Addr.add_lit,Nat.zero_add]];exact hcell j c hj
 by_cases hroom:xs.length+1≤cap
 ·have hfit:xs.length * i.size+cs.length≤cur.size:=by
    rw [hcl,a6];have:=Nat.mul_le_mul_right i.size hroom
    rwa [Nat.add_mul,Nat.one_mul] at this
  have hr:=run_append_room (P:=P) w t ty e i ht hi g xs.length cap cur a3 ⟨b,0,none⟩ 1 1 cs (by omega) hadd (hR1 _ _ _ hy) hroom hfit;rw [r1] at hr;injection hr with hr1 hr2
  subst hr1;exact .inl rfl
 ·have holds:∀ j u,css.flatten[j]?=some u→w.cell? ((⟨g,0,none⟩:Addr).add j)=some u:=h3'.cells (g:=g) rfl;have hr:=run_append_grow (P:=P) w t ty e i z ht hi hz ⟨g,0,none⟩ xs.length cap css.flatten h4 holds ⟨b,0,none⟩ 1 1 cs (by omega) hadd (by omega) (by simp only [maxLen] at h63;omega) (growslice_fits (by omega) (by rw [hby];exact hbytes));rw [r1] at hr;injection hr with hr1 hr2
  subst hr2;exact .inr ⟨r5,⟨rfl,rfl,rfl,by simp,fun k hk _ => by first|exact heap_alloc_old w.drew _ hk|exact heap_alloc_old w.drew _ k hk⟩⟩
end
end Go.Proofs.YtobabnpllokkaaaGreatDoor
