/- Parts. -/
import Derived.Test.YtobabnpllokkaaaGreatDoorP17
import Derived.Test.YtobabnpllokkaaaGreatDoorP16
import Derived.Test.YtobabnpllokkaaaGreatDoorP15
import Derived.Test.YtobabnpllokkaaaGreatDoorP13
import Derived.Test.YtobabnpllokkaaaGreatDoorP07
import Derived.Test.YtobabnpllokkaaaGreatDoorP02
import Derived.Test.YtobabnpllokkaaaGreatDoorP00
set_option linter.unusedSimpArgs false
set_option linter.unusedVariables false
namespace Go.Proofs.YtobabnpllokkaaaGreatDoor
open Go.RowKit
def Cls (N:ByteArray→Prop) (R:ByteArray→ByteArray→Prop) (p:List ByteArray):Prop :=
 p≠[]∧Up cmpS p∧(∀ u ∈ p,N u)∧∀ u ∈ p,∀ v,v ∈ p↔R u v∧R v u
def RdyL (R:ByteArray→ByteArray→Prop) (D p:List ByteArray):Prop:=∀ u ∈ p,∀ v,R u v→v ∈ p∨v ∈ D
def hdP (p:List ByteArray):ByteArray:=p.headD ⟨#[]⟩
def PSpec (N:ByteArray→Prop) (R:ByteArray→ByteArray→Prop):List ByteArray→List (List ByteArray)→Prop
 | D,[] => ∀ u,N u→u ∈ D
 | D,p :: l => Cls N R p∧(∀ u ∈ p,u ∉ D)∧RdyL R D p∧(∀ q,Cls N R q→(∀ u ∈ q,u ∉ D)→RdyL R D q→q=p∨cmpS (hdP p) (hdP q)<0)∧PSpec N R (D++p) l
theorem PSpec.uniq {N:ByteArray→Prop} {R:ByteArray→ByteArray→Prop}:∀ {l l':List (List ByteArray)} {D:List ByteArray},PSpec N R D l→PSpec N R D l'→l=l'
 | [],[],_,_,_ => rfl
 | [],p :: l,D,h,k => by
  obtain ⟨⟨k1,_,k2,_⟩,k3,_⟩:=k;obtain ⟨u,hu⟩:=List.exists_mem_of_ne_nil p k1;exact absurd (h u (k2 u hu)) (k3 u hu)
 | p :: l,[],D,k,h => by
  obtain ⟨⟨k1,_,k2,_⟩,k3,_⟩:=k;obtain ⟨u,hu⟩:=List.exists_mem_of_ne_nil p k1;exact absurd (h u (k2 u hu)) (k3 u hu)
 | p :: l,p' :: l',D,h,k => by
  obtain ⟨h1,h2,h3,h4,h5⟩:=h;obtain ⟨k1,k2,k3,k4,k5⟩:=k
  have e:p'=p:=by
   rcases h4 p' k1 k2 k3 with e|e
   ·exact e
   ·rcases k4 p h1 h2 h3 with e'|e'
    ·exact e'.symm
    ·have:=totS.neg (hdP p) (hdP p');omega
  subst e;rw [PSpec.uniq h5 k5]
theorem PSpec.at_ {N:ByteArray→Prop} {R:ByteArray→ByteArray→Prop}:∀ {l:List (List ByteArray)} {D:List ByteArray},PSpec N R D l→∀ (i:Nat) (p:List ByteArray),l[i]?=some p→Cls N R p∧(∀ u ∈ p,u ∉ D++(l.take i).flatten)∧RdyL R (D++(l.take i).flatten) p
 | p :: l,D,h,0,q,hq => by
  obtain rfl:p=q:=by simpa using hq
  obtain ⟨h1,h2,h3,_⟩:=h;simpa using ⟨h1,h2,h3⟩
 | p :: l,D,h,i+1,q,hq => by
  obtain ⟨_,_,_,_,h5⟩:=h;have:=PSpec.at_ h5 i q (by simpa using hq);simpa [List.append_assoc] using this
theorem PSpec.all_ {N:ByteArray→Prop} {R:ByteArray→ByteArray→Prop}:∀ {l:List (List ByteArray)} {D:List ByteArray},PSpec N R D l→∀ u,N u→u ∈ D++l.flatten
 | [],D,h,u,hu => by simpa using h u hu
 | p :: l,D,h,u,hu => by
  have:=PSpec.all_ h.2.2.2.2 u hu;simpa [List.append_assoc] using this
section
variable {G:Gr} {T:TS}
theorem Rch.name (hG:∀ u ∈ G.names,∀ t ∈ sucs G u,t ∈ G.names) {s t:ByteArray} (h:Rch G s t) (hs:s ∈ G.names):t ∈ G.names:=h.closed hG hs
theorem TarOk.cls (h:TarOk G T) (hG:∀ u ∈ G.names,∀ t ∈ sucs G u,t ∈ G.names) {a:Nat} (ha:a<T.out.length):Cls (· ∈ G.names) (Rch G) (T.out.getD a []):=by
 have hg:T.out[a]?=some (T.out.getD a []):=by rw [List.getD_eq_getElem?_getD,List.getElem?_eq_getElem ha];rfl
 obtain ⟨o1,o2,o3⟩:=h.inv.outp a _ hg;refine ⟨o1,o2,fun u hu => h.dnm ((o3 u).1 hu),fun u hu v => ?_⟩;have hu':=(o3 u).1 hu;rw [o3 v]
 constructor
 ·intro hv;exact (h.inv.cmp _ _ _ _ hu' hv).1 rfl
 ·rintro ⟨r1,r2⟩;have hv:=h.at (r1.name hG (h.dnm hu'));have:=(h.inv.cmp _ _ _ _ hu' hv).2 ⟨r1,r2⟩;rw [this];exact hv
theorem TarOk.cls_is (h:TarOk G T) (hG:∀ u ∈ G.names,∀ t ∈ sucs G u,t ∈ G.names) {q:List ByteArray} (hq:Cls (· ∈ G.names) (Rch G) q):∃ j,j<T.out.length∧q=T.out.getD j []:=by
 obtain ⟨q1,q2,q3,q4⟩:=hq;obtain ⟨u,hu⟩:=List.exists_mem_of_ne_nil q q1;have hi:=h.at (q3 u hu);have hj:=h.inv.num _ hi;refine ⟨_,hj,?_⟩;obtain ⟨c1,c2,c3,c4⟩:=h.cls hG hj;have hu2:u ∈ T.out.getD (lk0 T.inn u) []:=(h.out_at hj).2 hi;exact Up.uniq totS q2 c2 fun v => (q4 u hu v).trans (c4 u hu2 v).symm
theorem TarOk.pspec (h:TarOk G T) (hG:∀ u ∈ G.names,∀ t ∈ sucs G u,t ∈ G.names):∀ (l dn:List Nat) (D:List ByteArray),OrdOk T.out.length (lowerP G T) (headP T) dn l→(∀ j ∈ dn,j<T.out.length)→(∀ u,u ∈ D↔∃ j ∈ dn,(u,j) ∈ T.inn)→(∀ u ∈ D,∀ t ∈ sucs G u,t ∈ D)→PSpec (· ∈ G.names) (Rch G) D (l.map fun a => T.out.getD a [])
 | [],dn,D,ho,hd,hD,hc => fun u hu => (hD u).2 ⟨_,ho _ (h.inv.num _ (h.at hu)),h.at hu⟩
 | a :: l,dn,D,ho,hd,hD,hc => by
  obtain ⟨o1,o2,o3,o4,o5⟩:=ho;have hp:∀ u,u ∈ T.out.getD a []↔(u,a) ∈ T.inn:=fun u => h.out_at o1
  have hnew:∀ u ∈ T.out.getD a [],u ∉ D:=fun u hu hd' => by
   obtain ⟨j,j1,j2⟩:=(hD u).1 hd';have:=key_one h.inv.ndI j2 ((hp u).1 hu);exact o2 (this ▸ j1)
  have hsu:∀ u ∈ T.out.getD a [],∀ t ∈ sucs G u,t ∈ T.out.getD a []∨t ∈ D:=fun u hu t ht => by
   have hu':=(hp u).1 hu;have htn:=hG u (h.dnm hu') t ht
   by_cases e:lk0 T.inn t=a
   ·exact .inl ((hp t).2 (by have:=h.at htn;rwa [e] at this))
   ·have:=o3 _ ((h.low_in o1).2 ⟨e,u,t,hu',ht,rfl⟩);exact .inr ((hD t).2 ⟨_,this,h.at htn⟩)
  refine ⟨h.cls hG o1,hnew,fun u hu v hv => ?_,fun q hq hqd hqr => ?_,?_⟩
  ·refine hv.closed (D:=fun x => x ∈ T.out.getD a []∨x ∈ D) (fun x hx t ht => ?_) (.inl hu);rcases hx with hx|hx
   ·exact hsu x hx t ht
   ·exact .inr (hc x hx t ht)
  ·obtain ⟨j,j1,rfl⟩:=h.cls_is hG hq;have hpj:∀ u,u ∈ T.out.getD j []↔(u,j) ∈ T.inn:=fun u => h.out_at j1
   have hjd:j ∉ dn:=fun hj => by
    obtain ⟨u,hu⟩:=List.exists_mem_of_ne_nil _ hq.1;exact hqd u hu ((hD u).2 ⟨j,hj,(hpj u).1 hu⟩)
   have hrd:Ready (lowerP G T) dn j:=fun k hk => by
    obtain ⟨k1,s,t,k2,k3,k4⟩:=(h.low_in j1).1 hk;rcases hqr s ((hpj s).2 k2) t (.one k3) with r|r
    ·exact absurd (h.lk ((hpj t).1 r)) (fun e => k1 (k4.symm.trans e))
    ·obtain ⟨m,m1,m2⟩:=(hD t).1 r;have:=h.lk m2;rw [k4] at this;rw [this];exact m1
   rcases o4 j j1 hjd hrd with e|e
   ·exact .inl (by rw [e])
   ·exact .inr e
  ·refine TarOk.pspec h hG l (dn++[a]) _ o5 (fun j hj => ?_) (fun u => ?_) (fun u hu t ht => ?_)
   ·rcases List.mem_append.1 hj with q|q
    ·exact hd j q
    ·rw [List.mem_singleton] at q;subst q;exact o1
   ·rw [List.mem_append,hD,hp]
    constructor
    ·rintro (⟨j,j1,j2⟩|q)
     ·exact ⟨j,List.mem_append_left _ j1,j2⟩
     ·exact ⟨a,List.mem_append_right _ (List.mem_singleton.2 rfl),q⟩
    ·rintro ⟨j,j1,j2⟩;rcases List.mem_append.1 j1 with q|q
     ·exact .inl ⟨j,q,j2⟩
     ·rw [List.mem_singleton] at q;subst q;exact .inr j2
   ·rcases List.mem_append.1 hu with q|q
    ·exact List.mem_append_left _ (hc u q t ht)
    ·rcases hsu u q t ht with r|r
     ·exact List.mem_append_right _ r
     ·exact List.mem_append_left _ r
end
theorem parts_rules {rs:List Ru} (h:Small rs):∃ T out,tarjT (drawP rs) ((drawP rs).names.length+1)=some T∧TarOk (drawP rs) T∧partsP (drawP rs) T=some out∧PSpec (· ∈ (drawP rs).names) (Rch (drawP rs)) [] out:=by
 obtain ⟨T,h1,h2⟩:=tarj_rules h;obtain ⟨l,h3,h4⟩:=h2.ords (draw_closed rs) (by have:=draw_len h;omega);refine ⟨T,_,h1,h2,by unfold partsP;rw [h3];rfl,h2.pspec (draw_closed rs) l [] [] h4 (fun j hj => by cases hj) (fun u => ?_) (fun u hu => by cases hu)⟩
 constructor
 ·intro hu;cases hu
 ·rintro ⟨j,hj,_⟩;cases hj
section
variable {rs rs':List Ru}
end
end Go.Proofs.YtobabnpllokkaaaGreatDoor
namespace Go.Proofs.YtobabnpllokkaaaGreatDoor
open Go.RowKit Go.WideMaps Go.Maps
theorem names_ok {M:Nat} {w:World} {v:Value} {rs:List Ru} (h:SlRep 3 M RRu w v rs):∀ s ∈ (drawP rs).names,s.size≤140737488351232:=fun s hs => by
 obtain ⟨h1,h2⟩:=rus_ok h;rw [(draw_ok rs).nm] at hs;obtain ⟨r,hr,hx⟩:=List.mem_flatMap.1 hs;unfold Ru.nN at hx;rcases List.mem_cons.1 hx with rfl|hx
 ·exact h1 r hr
 ·obtain ⟨l,hl,rfl⟩:=List.mem_map.1 hx;exact h2 r hr l (List.mem_filter.1 hl).1
theorem partsAll_any {M:Nat} (A:Option Addr) (c:Nat) (rs:List Ru) (w:World) (h:SlRep 3 M RRu w (.slice A rs.length c) rs) (hM:M≤9223372036854775807) (hS:Small rs) :
    Calls Tryz.prog 9 #[.agg #[.slice A rs.length c]] w fun e w' => ∃ v out,e = .returned v∧PSpec (· ∈ (drawP rs).names) (Rch (drawP rs)) [] out∧OwnL 1 w.heap.size 76 (RLs w.heap.size (.slice none 0 0)) w' v out∧Fut w w':=by
 obtain ⟨T,out,hT,hO,hp,hs⟩:=parts_rules hS;have h0:=draw_len hS
 have hl:(drawP rs).length≤100000000:=by
  have h2:(drawP rs).names.length=(drawP rs).length:=List.length_map _;omega
 refine (partsR_any A c rs w h hM hS _ T hT hl (hO.sound (by omega)) (fun p hp x hx => ?_) out hp).mono ?_
 ·obtain ⟨j,hj⟩:=List.getElem?_of_mem hp;have h1:=((hO.inv.outp j p hj).2.2 x).1 hx;exact names_ok h x (hO.dnm h1)
 ·rintro e w' ⟨v,he,ho,hf⟩;exact ⟨v,out,he,hs,ho,hf⟩
set_option maxHeartbeats 1000000 in
theorem sameTx_any {M M':Nat} (a b:Value) (xs:List ByteArray) (w:World) (ha:SlRep 1 M RNm w a xs) (hb:SlRep 1 M' RNm w b xs) (hM:M≤9223372036854775807) :
    Calls Tryz.prog 23 #[a,b] w fun e w' => e = .returned (.bool true)∧Fut w w':=by
 have HA:=Hh ha;have HB:=Hh hb;obtain ⟨A,ca,rfl,hl1,hl2⟩:=ha.form;obtain ⟨A',cb,rfl,_,_⟩:=hb.form;have hxl:xs.length≤9223372036854775807:=by omega
 clear ha hb hl1 hl2;go_enter Tryz.func23,Tryz.ntmps23;go_wp2_with fail;go_loopw [5] (fun i wr => ∃ k:Nat,k≤xs.length∧i = .int .i64 k∧Hid (Fut w wr)) (fun i _ => xs.length - (intOf i).toNat)
 case atStart => exact ⟨0,Nat.zero_le _,rfl,Hh (Fut.refl _)⟩
 case round =>
  obtain ⟨k,hk,rfl,hG⟩:=hrel
  by_cases hlt:k<xs.length
  ·obtain ⟨b1,o1,rfl,x0⟩:=nm_at (HA.out.fut RNm.stays hG.out) hlt;obtain ⟨b2,o2,rfl,y0⟩:=nm_at (HB.out.fut RNm.stays hG.out) hlt;generalize xs[k]=z at *;have hltI:(k:Int)<xs.length:=by omega
   have e0:(0:Int)≤k∧(k:Int)<xs.length:=by omega
   go_wp2_with fail;refine wp_graph 9 [.d,.d,.d,.d,.d,.d,.d,.d,.d] (by kernel_rfl) (by kernel_rfl) (by kernel_rfl) ?_;simp only [takS,Exs]
   iterate 9 apply Exists.intro
   iterate 3
    apply Run.valG (wanted_none rfl _)
    ·intro w1 h1 hk;go_simp;rfl
    simp only [actS]
   apply Run.valG (wanted_none rfl _)
   ·intro w1 h1 hk;have q1:=h1.cell x0;have q2:=h1.cell y0;have hcw:=fun b o => Below.cell (p:=⟨b,o,none⟩) h1;go_simp;rfl
   simp only [actS]
   iterate 3
    apply Run.valG (wanted_none rfl _)
    ·intro w1 h1 hk;go_simp;rfl
    simp only [actS]
   apply Run.valG (wanted_none rfl _)
   ·intro w1 h1 hk;have q1:=h1.cell x0;have q2:=h1.cell y0;have hcw:=fun b o => Below.cell (p:=⟨b,o,none⟩) h1;go_simp;rfl
   simp only [actS];apply Run.valG (wanted_none rfl _)
   ·intro w1 h1 hk;go_simp;rfl
   simp only [actS];apply Run.done;intro w2 h2 hk;clear hk;have hGn:=Hh (hG.out.trans ((Fut.drew _).trans h2));clear h2;go_wp2;go_roundw
   case rel => exact ⟨k+1,by omega,by go_num,hGn⟩
   case measure => simp [intOf] <;> omega
  ·obtain rfl:k=xs.length:=by omega
   go_wp2;go_ret;exact ⟨rfl,hG.out⟩
set_option maxHeartbeats 1000000 in
theorem sameTl_any {M M' C C':Nat} {s s':Value} (a b:Value) (xs:List (List ByteArray)) (w:World) (ha:SlRep 1 M (RLs C s) w a xs) (hb:SlRep 1 M' (RLs C' s') w b xs) (hM:M≤9223372036854775807) :
    Calls Tryz.prog 11 #[a,b] w fun e w' => e = .returned (.bool true)∧Fut w w':=by
 have HA:=Hh ha;have HB:=Hh hb;obtain ⟨A,ca,rfl,hl1,hl2⟩:=ha.form;obtain ⟨A',cb,rfl,_,_⟩:=hb.form;have hxl:xs.length≤9223372036854775807:=by omega
 clear ha hb hl1 hl2;go_enter Tryz.func11,Tryz.ntmps11;go_wp2_with fail;go_loopw [5] (fun i wr => ∃ k:Nat,k≤xs.length∧i = .int .i64 k∧Hid (Fut w wr)) (fun i _ => xs.length - (intOf i).toNat)
 case atStart => exact ⟨0,Nat.zero_le _,rfl,Hh (Fut.refl _)⟩
 case round =>
  obtain ⟨k,hk,rfl,hG⟩:=hrel
  by_cases hlt:k<xs.length
  ·obtain ⟨b1,o1,v1,rfl,x0,g1⟩:=ls_at (HA.out.fut RLs.stays hG.out) hlt;obtain ⟨b2,o2,v2,rfl,y0,g2⟩:=ls_at (HB.out.fut RLs.stays hG.out) hlt;generalize xs[k]=z at *;have hltI:(k:Int)<xs.length:=by omega
   have e0:(0:Int)≤k∧(k:Int)<xs.length:=by omega
   have HS:=Hh (fun W (hW:Fut wr W) => sameTx_any v1 v2 z W (g1.rep.fut RNm.stays hW) (g2.rep.fut RNm.stays hW) (by decide));go_wp2_with fail;refine wp_graph 10 [.d,.d,.d,.d,.d,.d,.d,.d,.d,.d] (by kernel_rfl) (by kernel_rfl) (by kernel_rfl) ?_;simp only [takS,Exs]
   iterate 10 apply Exists.intro
   iterate 3
    apply Run.valG (wanted_none rfl _)
    ·intro w1 h1 hk;go_simp;rfl
    simp only [actS]
   apply Run.valG (wanted_none rfl _)
   ·intro w1 h1 hk;have q1:=h1.cell x0;have q2:=h1.cell y0;have hg:=(Fut.drew _).trans h1;have hcw:=fun b o => Below.cell (p:=⟨b,o,none⟩) h1;go_simp;rfl
   simp only [actS]
   iterate 3
    apply Run.valG (wanted_none rfl _)
    ·intro w1 h1 hk;go_simp;rfl
    simp only [actS]
   apply Run.valG (wanted_none rfl _)
   ·intro w1 h1 hk;have q1:=h1.cell x0;have q2:=h1.cell y0;have hg:=(Fut.drew _).trans h1;have hcw:=fun b o => Below.cell (p:=⟨b,o,none⟩) h1;go_simp;rfl
   simp only [actS];apply Run.call (wanted_none rfl _) (fun _ _ => by go_simp;exact ⟨rfl,rfl⟩)
   ·intro w1 h1 hk;have q1:=h1.cell x0;have q2:=h1.cell y0;have hg:=(Fut.drew _).trans h1;exact HS.out _ hg
   simp only [actS];apply Run.valG (wanted_none rfl _)
   ·intro w1 h1 hk;go_simp;rfl
   simp only [actS];apply Run.done;intro w2 h2 hk;clear hk;have hGn:=Hh (hG.out.trans ((Fut.drew _).trans h2));clear h2 HS;go_wp2;go_roundw
   case rel => exact ⟨k+1,by omega,by go_num,hGn⟩
   case measure => simp [intOf] <;> omega
  ·obtain rfl:k=xs.length:=by omega
   go_wp2;go_ret;exact ⟨rfl,hG.out⟩
set_option maxHeartbeats 1600000 in
set_option maxRecDepth 100000 in
theorem rhas9_any {M:Nat} (s:ByteArray) (A:Option Addr) (c:Nat) (L:List ByteArray) (w:World) (h:SlRep 1 M RNm w (.slice A L.length c) L) (hM:M≤9223372036854775807) :
    Calls Tryz.prog 30 #[.slice A L.length c,.string s] w fun e w' => e = .returned (.bool (decide (s ∈ L)))∧w'=w:=by
 have H:=Hh h;obtain ⟨_,_,hv,hl1,hl2⟩:=h.form;have hxl:L.length≤9223372036854775807:=by omega
 obtain ⟨b,hb⟩:∃ b,decide (s ∈ L)=b:=⟨_,rfl⟩
 rw [hb];replace hb:=Hh hb;clear h hv hl1 hl2;go_enter Tryz.func30,Tryz.ntmps30;go_wp2_with fail;go_loopw [5] (fun i wr => ∃ k:Nat,k≤L.length∧i = .int .i64 k∧Hid (wr=w)∧Hid (∀ x ∈ L.take k,x≠s)) (fun i _ => L.length - (intOf i).toNat)
 case atStart => exact ⟨0,Nat.zero_le _,rfl,Hh rfl,Hh (fun x hx => by simp at hx)⟩
 case round =>
  obtain ⟨k,hk,rfl,hW,hI⟩:=hrel;obtain rfl:=hW.out
  by_cases hlt:k<L.length
  ·have hltI:(k:Int)<L.length:=by omega
   have e0:(0:Int)≤k∧(k:Int)<L.length:=by omega
   obtain ⟨b',off,rfl,u0⟩:=nm_at H.out hlt;have hnx:=Hh (List.take_succ_eq_append_getElem hlt);have hmem:=Hh (List.getElem_mem hlt);generalize L[k]=z at *
   by_cases hz:z=s
   ·obtain rfl:b=true:=(by rw [← hb.out];exact decide_eq_true (hz ▸ hmem.out))
    subst hz;go_wp2;go_ret;exact ⟨rfl,rfl⟩
   ·have hI2:Hid (∀ x ∈ L.take (k+1),x≠s):=Hh fun x hx => by
      rw [hnx.out,List.mem_append] at hx;rcases hx with hx|hx
      ·exact hI.out x hx
      ·rw [List.mem_singleton] at hx;subst hx;exact hz
    have hzb:(z.toList == s.toList)=false:=(by
     rw [beq_eq_false_iff_ne];intro h;rw [ByteArray.toList_eq,ByteArray.toList_eq] at h;exact hz (ByteArray.ext (Array.toList_inj.1 (by simpa using h))))
    go_wp2;go_roundw
    case rel => exact ⟨k+1,by omega,by go_num,(by first|exact Hh trivial|exact Hh rfl),hI2⟩
    case measure => simp [intOf] <;> omega
  ·obtain rfl:k=L.length:=by omega
   rw [List.take_length] at hI;obtain rfl:b=false:=(by rw [← hb.out];exact decide_eq_false (fun h => hI.out s h rfl))
   go_wp2;go_ret;exact ⟨rfl,rfl⟩
end Go.Proofs.YtobabnpllokkaaaGreatDoor
namespace Go.Proofs.YtobabnpllokkaaaGreatDoor
open Go.RowKit
structure Bf (es:List Ed) (ok:Ed→Prop) (p:ByteArray) (seen:List ByteArray) (i k:Nat):Prop where
 nd:seen.Nodup
 hd:p ∈ seen
 le:i≤seen.length
 src:∀ x ∈ seen,x ∈ p :: es.map (·.t)
 snd:∀ D:ByteArray→Prop,D p→(∀ e ∈ es,ok e→D e.f→D e.t)→∀ x ∈ seen,D x
 cl:∀ (j:Nat) x,j<i→seen[j]?=some x→∀ e ∈ es,ok e→e.f=x→e.t ∈ seen
 cur:∀ x,seen[i]?=some x→∀ e ∈ es.take k,ok e→e.f=x→e.t ∈ seen
section
variable {es:List Ed} {ok:Ed→Prop} {p:ByteArray} {seen:List ByteArray} {i k:Nat} {x:ByteArray}
theorem Bf.start (es:List Ed) (ok:Ed→Prop) (p:ByteArray):Bf es ok p [p] 0 0 :=
 ⟨by simp,List.mem_singleton.2 rfl,Nat.zero_le _,fun x hx => by rw [List.mem_singleton] at hx;subst hx;exact List.mem_cons_self,fun D h0 _ x hx => by rw [List.mem_singleton] at hx;subst hx;exact h0,fun j x hj => by omega,fun x _ e he => by simp at he⟩
theorem Bf.skip (h:Bf es ok p seen i k) (hk:k<es.length) (hx:∀ x,seen[i]?=some x→ok es[k]→es[k].f=x→es[k].t ∈ seen):Bf es ok p seen i (k+1) :=
 ⟨h.nd,h.hd,h.le,h.src,h.snd,h.cl,fun x hi e he ho hf => by
  rw [List.take_succ_eq_append_getElem hk,List.mem_append,List.mem_singleton] at he;rcases he with he|rfl
  ·exact h.cur x hi e he ho hf
  ·exact hx x hi ho hf⟩
theorem Bf.push (h:Bf es ok p seen i k) (hk:k<es.length) (hi:seen[i]?=some x) (ho:ok es[k]) (hf:es[k].f=x) (hn:es[k].t ∉ seen):Bf es ok p (seen++[es[k].t]) i (k+1):=by
 have hil:i<seen.length:=(List.getElem?_eq_some_iff.1 hi).1;have hget:∀ (j:Nat),j≤i→(seen++[es[k].t])[j]?=seen[j]?:=fun j hj => List.getElem?_append_left (by omega);have hmem:es[k] ∈ es:=List.getElem_mem hk;refine ⟨?_,List.mem_append_left _ h.hd,by rw [List.length_append];omega,fun y hy => ?_,fun D h0 hD y hy => ?_,fun j y hj hy e he hoe hfe => ?_,fun y hy e he hoe hfe => ?_⟩
 ·rw [List.nodup_append];refine ⟨h.nd,by simp,fun a ha b hb e => ?_⟩;rw [List.mem_singleton] at hb;exact hn (by rw [← hb,← e];exact ha)
 ·rcases List.mem_append.1 hy with q|q
  ·exact h.src y q
  ·rw [List.mem_singleton] at q;subst q;exact List.mem_cons_of_mem _ (List.mem_map_of_mem hmem)
 ·rcases List.mem_append.1 hy with q|q
  ·exact h.snd D h0 hD y q
  ·rw [List.mem_singleton] at q;subst q;refine hD _ hmem ho ?_;rw [hf];exact h.snd D h0 hD x (List.mem_of_getElem? hi)
 ·rw [hget j (by omega)] at hy;exact List.mem_append_left _ (h.cl j y hj hy e he hoe hfe)
 ·rw [hget i (Nat.le_refl _)] at hy;rw [List.take_succ_eq_append_getElem hk,List.mem_append,List.mem_singleton] at he;rcases he with he|rfl
  ·exact List.mem_append_left _ (h.cur y hy e he hoe hfe)
  ·exact List.mem_append_right _ (List.mem_singleton.2 rfl)
theorem Bf.next (h:Bf es ok p seen i es.length) (hi:i<seen.length):Bf es ok p seen (i+1) 0 :=
 ⟨h.nd,h.hd,hi,h.src,h.snd,fun j x hj hx e he ho hf => by
  by_cases hji:j<i
  ·exact h.cl j x hji hx e he ho hf
  ·have:j=i:=by omega
   subst this;exact h.cur x hx e (by rw [List.take_length];exact he) ho hf,fun x _ e he => by simp at he⟩
theorem Bf.len (h:Bf es ok p seen i k):seen.length≤es.length+1:=by
 have:=nodup_le h.nd h.src;rw [List.length_cons,List.length_map] at this;omega
theorem Bf.closed (h:Bf es ok p seen seen.length k):∀ e ∈ es,ok e→e.f ∈ seen→e.t ∈ seen:=fun e he ho hf => by
 obtain ⟨j,hj⟩:=List.getElem?_of_mem hf;exact h.cl j _ (List.getElem?_eq_some_iff.1 hj).1 hj e he ho rfl
end
theorem Bf.rch {rs:List Ru} {ok:Ed→Prop} {p:ByteArray} {seen:List ByteArray} {k:Nat} (h:Bf (edgesP rs) ok p seen seen.length k) (hok:∀ e ∈ edgesP rs,ok e) (x:ByteArray):x ∈ seen↔Rch (drawP rs) p x:=by
 constructor
 ·refine h.snd (fun x => Rch (drawP rs) p x) (.refl p) (fun e he _ hr => hr.trans (.one (edge_suc.2 ⟨e,he,rfl,rfl⟩))) x
 ·intro hr;refine hr.closed (D:=fun x => x ∈ seen) (fun u hu t ht => ?_) h.hd;obtain ⟨e,he,rfl,rfl⟩:=edge_suc.1 ht;exact h.closed e he (hok e he) hu
def ReachOf (rs:List Ru) (p:ByteArray) (L:List ByteArray):Prop:=Up cmpS L∧∀ x,x ∈ L↔Rch (drawP rs) p x
theorem up9_nodup:∀ {L:List ByteArray},Up cmpS L→L.Nodup
 | [],_ => List.nodup_nil
 | a :: l,h => by
  have h':=List.pairwise_cons.1 h;refine List.nodup_cons.2 ⟨fun hm => totS.irr a (h'.1 a hm),up9_nodup h'.2⟩
end Go.Proofs.YtobabnpllokkaaaGreatDoor
namespace Go.Proofs.YtobabnpllokkaaaGreatDoor
open Go.RowKit Go.WideMaps Go.Maps
theorem PSpec.nodup {N:ByteArray→Prop} {R:ByteArray→ByteArray→Prop}:∀ {l:List (List ByteArray)} {D:List ByteArray},PSpec N R D l→D.Nodup→(D++l.flatten).Nodup
 | [],D,h,hd => by simpa using hd
 | p :: l,D,h,hd => by
  have h2:(D++p).Nodup:=List.nodup_append.2 ⟨hd,up9_nodup h.1.2.1,fun a ha b hb e => h.2.1 b hb (e ▸ ha)⟩;have:=PSpec.nodup h.2.2.2.2 h2;simpa [List.append_assoc] using this
theorem PSpec.inN {N:ByteArray→Prop} {R:ByteArray→ByteArray→Prop} {l:List (List ByteArray)} {D:List ByteArray} (h:PSpec N R D l):∀ u ∈ l.flatten,N u:=fun u hu => by
 obtain ⟨p,hp,hup⟩:=List.mem_flatten.1 hu;obtain ⟨i,hi⟩:=List.getElem?_of_mem hp;exact (h.at_ i p hi).1.2.2.1 u hup
theorem parts_len {rs:List Ru} (h:Small rs) {out:List (List ByteArray)} (hp:PSpec (· ∈ (drawP rs).names) (Rch (drawP rs)) [] out) (k:Nat):(out.take k).flatten.length≤10000000:=by
 have h1:=draw_len h;have hn:=hp.nodup List.nodup_nil;rw [List.nil_append] at hn;have h2:out.flatten.length≤(drawP rs).names.length:=nodup_le hn fun x hx => hp.inN x hx
 have h3:(out.take k).flatten.length≤out.flatten.length:=by
  conv => rhs;rw [← List.take_append_drop k out,List.flatten_append,List.length_append]
  omega
 omega
theorem part_len {rs:List Ru} (h:Small rs) {out:List (List ByteArray)} (hp:PSpec (· ∈ (drawP rs).names) (Rch (drawP rs)) [] out) {k:Nat} {p:List ByteArray} (hk:out[k]?=some p):p.length≤10000000:=by
 have h1:=parts_len h hp (k+1);obtain ⟨hl,rfl⟩:=List.getElem?_eq_some_iff.1 hk;rw [List.take_succ_eq_append_getElem hl,List.flatten_append,List.length_append] at h1;simp at h1;omega
structure PartAt (rs:List Ru) (D p:List ByteArray):Prop where
 ne:p≠[]
 up:Up cmpS p
 nm:∀ u ∈ p,u ∈ (drawP rs).names
 ap:∀ u ∈ p,u ∉ D
 rd:∀ u ∈ p,∀ r,ReachOf rs u r→∀ v ∈ r,v ∉ D→v ∈ p
 all:∀ u ∈ p,∀ r,ReachOf rs u r→∀ v ∈ p,v ∈ r
 back:∀ u ∈ p,∀ r,ReachOf rs u r→∀ x ∈ D,x ∈ r→∀ r',ReachOf rs x r'→u ∉ r'
section
variable {N:ByteArray→Prop} {R:ByteArray→ByteArray→Prop}
theorem Cls.eq {p q:List ByteArray} (h:Cls N R p) (k:Cls N R q) {u:ByteArray} (hp:u ∈ p) (hq:u ∈ q):p=q :=
 Up.uniq totS h.2.1 k.2.1 fun x => (h.2.2.2 u hp x).trans (k.2.2.2 u hq x).symm
theorem Cls.hd {p:List ByteArray} (h:Cls N R p):hdP p ∈ p:=by
 cases p with
 | nil => exact absurd rfl h.1
 | cons a l => exact List.mem_cons_self
theorem PSpec.min_:∀ {l:List (List ByteArray)} {D:List ByteArray},PSpec N R D l→∀ (i:Nat) (p:List ByteArray),l[i]?=some p→∀ q,Cls N R q→(∀ u ∈ q,u ∉ D++(l.take i).flatten)→RdyL R (D++(l.take i).flatten) q→q=p∨cmpS (hdP p) (hdP q)<0
 | p :: l,D,h,0,p',hq,q,h1,h2,h3 => by
  obtain rfl:p=p':=by simpa using hq
  obtain ⟨_,_,_,k4,_⟩:=h;simp only [List.take_zero,List.flatten_nil,List.append_nil] at h2 h3;exact k4 q h1 h2 h3
 | p :: l,D,h,i+1,p',hq,q,h1,h2,h3 => by
  obtain ⟨_,_,_,_,h5⟩:=h;simp only [List.take_succ_cons,List.flatten_cons,← List.append_assoc] at h2 h3;exact PSpec.min_ h5 i p' (by simpa using hq) q h1 h2 h3
structure ClsList (N:ByteArray→Prop) (R:ByteArray→ByteArray→Prop) (P:List (List ByteArray)):Prop where
 cls:∀ p ∈ P,Cls N R p
 all:∀ q,Cls N R q→q ∈ P
 up:P.Pairwise fun p q => cmpS (hdP p) (hdP q)<0
theorem PSpec.cls {out:List (List ByteArray)} (k:PSpec N R [] out) {q:List ByteArray} (hq:q ∈ out):Cls N R q:=by
 obtain ⟨i,hi⟩:=List.getElem?_of_mem hq;exact (k.at_ i q hi).1
theorem ClsList.mem {P out:List (List ByteArray)} (h:ClsList N R P) (k:PSpec N R [] out) (p:List ByteArray):p ∈ P↔p ∈ out:=by
 constructor
 ·intro hp;have hc:=h.cls p hp;have hu:=k.all_ (hdP p) (hc.2.2.1 _ hc.hd);rw [List.nil_append] at hu;obtain ⟨q,hq,huq⟩:=List.mem_flatten.1 hu;rw [hc.eq (k.cls hq) hc.hd huq];exact hq
 ·intro hp;exact h.all p (k.cls hp)
theorem ClsList.pick {P out:List (List ByteArray)} (h:ClsList N R P) (k:PSpec N R [] out) {n:Nat} {p:List ByteArray} (hn:out[n]?=some p) :
    (∃ i,P[i]?=some p∧∀ (j:Nat) (q:List ByteArray),j<i→P[j]?=some q→hdP q ∈ (out.take n).flatten∨¬ RdyL R (out.take n).flatten q)∧hdP p ∉ (out.take n).flatten∧RdyL R (out.take n).flatten p:=by
 obtain ⟨c,ap,rd⟩:=k.at_ n p hn;have mn:=k.min_ n p hn;rw [List.nil_append] at ap rd mn;refine ⟨?_,ap _ c.hd,rd⟩;obtain ⟨i,hi⟩:=List.getElem?_of_mem (h.all p c);refine ⟨i,hi,fun j q hj hq => Classical.byContradiction fun hno => ?_⟩;have hno1:hdP q ∉ (out.take n).flatten:=fun h9 => hno (.inl h9);have hno2:RdyL R (out.take n).flatten q:=Classical.byContradiction fun h9 => hno (.inr h9);have hqc:=h.cls q (List.mem_of_getElem? hq)
 have hlt:cmpS (hdP q) (hdP p)<0:=by
  obtain ⟨l1,e1⟩:=List.getElem?_eq_some_iff.1 hq;obtain ⟨l2,e2⟩:=List.getElem?_eq_some_iff.1 hi;have:=List.pairwise_iff_getElem.1 h.up j i l1 l2 hj
  rwa [e1,e2] at this
 have hd:∀ u ∈ q,u ∉ (out.take n).flatten:=fun u hu hD => by
  obtain ⟨q',hq',huq⟩:=List.mem_flatten.1 hD;have:=hqc.eq (k.cls (List.mem_of_mem_take hq')) hu huq;subst this;exact hno1 (List.mem_flatten.2 ⟨q,hq',hqc.hd⟩)
 rcases mn q hqc hd hno2 with e|e
 ·subst e;exact totS.irr _ hlt
 ·have:=totS.neg (hdP p) (hdP q);omega
theorem ClsList.len {P out:List (List ByteArray)} (h:ClsList N R P) (k:PSpec N R [] out):P.length=out.length:=by
 have h1:(P.map hdP).Nodup:=by
  refine List.nodup_iff_pairwise_ne.2 (List.pairwise_map.2 (h.up.imp fun {p q} hlt e => ?_));rw [e] at hlt;exact totS.irr _ hlt
 have h2:(out.map hdP).Nodup:=by
  refine List.nodup_iff_pairwise_ne.2 (List.pairwise_map.2 (List.pairwise_iff_getElem.2 fun i j hi hj hij e => ?_));obtain ⟨c,ap,_⟩:=k.at_ j out[j] (List.getElem?_eq_getElem hj);rw [List.nil_append] at ap;refine ap _ c.hd (List.mem_flatten.2 ⟨out[i],?_,?_⟩)
  ·exact List.mem_of_getElem? (i:=i) (by rw [List.getElem?_take,if_pos hij];exact List.getElem?_eq_getElem hi)
  ·rw [← e];exact (k.cls (List.getElem_mem hi)).hd
 have e:∀ x,x ∈ P.map hdP↔x ∈ out.map hdP:=fun x => by
  rw [List.mem_map,List.mem_map]
  constructor
  ·rintro ⟨p,hp,rfl⟩;exact ⟨p,(h.mem k p).1 hp,rfl⟩
  ·rintro ⟨p,hp,rfl⟩;exact ⟨p,(h.mem k p).2 hp,rfl⟩
 have a:=nodup_le h1 fun x => (e x).1;have b:=nodup_le h2 fun x => (e x).2;rw [List.length_map,List.length_map] at a b;omega
end
theorem Up.hd_le {p:List ByteArray} (h:Up cmpS p) {u:ByteArray} (hu:u ∈ p):u=hdP p∨cmpS (hdP p) u<0:=by
 cases p with
 | nil => cases hu
 | cons a l =>
  rcases List.mem_cons.1 hu with rfl|hu
  ·exact .inl rfl
  ·exact .inr ((List.pairwise_cons.1 h).1 u hu)
theorem Up.at_lt {l:List ByteArray} (h:Up cmpS l) {i j:Nat} {a b:ByteArray} (ha:l[i]?=some a) (hb:l[j]?=some b) (hij:i<j):cmpS a b<0:=by
 obtain ⟨l1,rfl⟩:=List.getElem?_eq_some_iff.1 ha;obtain ⟨l2,rfl⟩:=List.getElem?_eq_some_iff.1 hb;exact List.pairwise_iff_getElem.1 h i j l1 l2 hij
structure GrpI (N:ByteArray→Prop) (R:ByteArray→ByteArray→Prop) (names:List ByteArray) (i:Nat) (inn:List ByteArray) (P:List (List ByteArray)):Prop where
 inn_:∀ v,v ∈ inn↔∃ k u,k<i∧names[k]?=some u∧R u v∧R v u
 cls:∀ p ∈ P,Cls N R p
 at_:∀ p ∈ P,∃ k,k<i∧names[k]?=some (hdP p)
 all:∀ q,Cls N R q→(∃ k,k<i∧names[k]?=some (hdP q))→q ∈ P
 up:P.Pairwise fun p q => cmpS (hdP p) (hdP q)<0
section
variable {N:ByteArray→Prop} {R:ByteArray→ByteArray→Prop} {names inn:List ByteArray} {P:List (List ByteArray)} {i:Nat}
theorem GrpI.start:GrpI N R names 0 [] [] :=
 ⟨fun v => ⟨fun h => (by cases h),fun ⟨k,_,h,_⟩ => absurd h (Nat.not_lt_zero k)⟩,fun p h => (by cases h),fun p h => (by cases h),fun q _ ⟨k,h,_⟩ => absurd h (Nat.not_lt_zero k),List.Pairwise.nil⟩
theorem GrpI.skip (ht:∀ u v x,R u v→R v x→R u x) (hU:Up cmpS names) (h:GrpI N R names i inn P) {s:ByteArray} (hi:names[i]?=some s) (hs:s ∈ inn):GrpI N R names (i+1) inn P:=by
 obtain ⟨k0,u0,g1,g2,g3,g4⟩:=(h.inn_ s).1 hs;refine ⟨fun v => ?_,h.cls,fun p hp => ?_,fun q hq ⟨k,hk,hkq⟩ => ?_,h.up⟩
 ·rw [h.inn_]
  constructor
  ·rintro ⟨k,u,a,b⟩;exact ⟨k,u,by omega,b⟩
  ·rintro ⟨k,u,a,b,c,d⟩
   by_cases hki:k<i
   ·exact ⟨k,u,hki,b,c,d⟩
   ·obtain rfl:k=i:=by omega
    obtain rfl:s=u:=Option.some.inj (hi.symm.trans b);exact ⟨k0,u0,g1,g2,ht _ _ _ g3 c,ht _ _ _ d g4⟩
 ·obtain ⟨k,a,b⟩:=h.at_ p hp;exact ⟨k,by omega,b⟩
 ·by_cases hki:k<i
  ·exact h.all q hq ⟨k,hki,hkq⟩
  ·obtain rfl:k=i:=by omega
   have e:s=hdP q:=Option.some.inj (hi.symm.trans hkq);subst e;have hm:u0 ∈ q:=(hq.2.2.2 _ hq.hd u0).2 ⟨g4,g3⟩;have h1:=hU.at_lt g2 hi g1;rcases hq.2.1.hd_le hm with e|e
   ·rw [e] at h1;exact absurd h1 (totS.irr _)
   ·have:=totS.neg (hdP q) u0;omega
theorem GrpI.take (hr:∀ u,R u u) (ht:∀ u v x,R u v→R v x→R u x) (hN:∀ u v,N u→R u v→N v) (hU:Up cmpS names) (hM:∀ x,x ∈ names↔N x) (h:GrpI N R names i inn P) {s:ByteArray} (hi:names[i]?=some s) (hs:s ∉ inn) {part:List ByteArray} (hp:∀ v,v ∈ part↔v ∈ names.drop i∧R s v∧R v s) (hup:Up cmpS part) :
    GrpI N R names (i+1) (inn++part) (P++[part]):=by
 have hsN:N s:=(hM s).1 (List.mem_of_getElem? hi)
 have hev:∀ v,R s v→R v s→v ∈ names.drop i:=fun v h1 h2 => by
  obtain ⟨k,hk⟩:=List.getElem?_of_mem ((hM v).2 (hN s v hsN h1))
  by_cases hki:k<i
  ·exact absurd ((h.inn_ s).2 ⟨k,v,hki,hk,h2,h1⟩) hs
  ·refine List.mem_of_getElem? (i:=k - i) ?_;rw [List.getElem?_drop,show i+(k - i)=k by omega];exact hk
 have hp':∀ v,v ∈ part↔R s v∧R v s:=fun v => (hp v).trans ⟨fun q => q.2,fun q => ⟨hev v q.1 q.2,q⟩⟩;have hsp:s ∈ part:=(hp' s).2 ⟨hr s,hr s⟩
 have hc:Cls N R part:=⟨fun e => (by rw [e] at hsp;cases hsp),hup,fun u hu => hN s u hsN ((hp' u).1 hu).1,fun u hu v => by
  obtain ⟨a,b⟩:=(hp' u).1 hu;rw [hp' v];exact ⟨fun ⟨c,d⟩ => ⟨ht _ _ _ b c,ht _ _ _ d a⟩,fun ⟨c,d⟩ => ⟨ht _ _ _ a c,ht _ _ _ d b⟩⟩⟩
 have hhd:hdP part=s:=by
  obtain ⟨j,hj⟩:=List.getElem?_of_mem ((hp _).1 hc.hd).1;rw [List.getElem?_drop] at hj;rcases hup.hd_le hsp with e|e
  ·exact e.symm
  ·by_cases hj0:j=0
   ·subst hj0;exact (Option.some.inj (hi.symm.trans hj)).symm
   ·have:=hU.at_lt hi hj (by omega);have:=totS.neg (hdP part) s;omega
 refine ⟨fun v => ?_,fun p hq => ?_,fun p hq => ?_,fun q hq ⟨k,hk,hkq⟩ => ?_,?_⟩
 ·rw [List.mem_append,h.inn_,hp']
  constructor
  ·rintro (⟨k,u,a,b⟩|⟨a,b⟩)
   ·exact ⟨k,u,by omega,b⟩
   ·exact ⟨i,s,by omega,hi,a,b⟩
  ·rintro ⟨k,u,a,b,c,d⟩
   by_cases hki:k<i
   ·exact .inl ⟨k,u,hki,b,c,d⟩
   ·obtain rfl:k=i:=by omega
    obtain rfl:s=u:=Option.some.inj (hi.symm.trans b);exact .inr ⟨c,d⟩
 ·rcases List.mem_append.1 hq with hq|hq
  ·exact h.cls p hq
  ·rw [List.mem_singleton] at hq;subst hq;exact hc
 ·rcases List.mem_append.1 hq with hq|hq
  ·obtain ⟨k,a,b⟩:=h.at_ p hq;exact ⟨k,by omega,b⟩
  ·rw [List.mem_singleton] at hq;subst hq;exact ⟨i,by omega,by rw [hhd];exact hi⟩
 ·by_cases hki:k<i
  ·exact List.mem_append_left _ (h.all q hq ⟨k,hki,hkq⟩)
  ·obtain rfl:k=i:=by omega
   have e:s=hdP q:=Option.some.inj (hi.symm.trans hkq);have:q=part:=hq.eq hc hq.hd (by rw [← e];exact hsp);rw [this];exact List.mem_append_right _ (List.mem_singleton.2 rfl)
 ·refine List.pairwise_append.2 ⟨h.up,List.pairwise_singleton _ _,fun p hpP q hq => ?_⟩;rw [List.mem_singleton] at hq;subst hq;obtain ⟨k,a,b⟩:=h.at_ p hpP;rw [hhd];exact hU.at_lt b hi a
theorem GrpI.done (hM:∀ x,x ∈ names↔N x) (h:GrpI N R names names.length inn P):ClsList N R P :=
 ⟨h.cls,fun q hq => by
  obtain ⟨k,hk⟩:=List.getElem?_of_mem ((hM _).2 (hq.2.2.1 _ hq.hd));exact h.all q hq ⟨k,(List.getElem?_eq_some_iff.1 hk).1,hk⟩,h.up⟩
end
def PutI (l:List ByteArray) (s:ByteArray) (i:Nat) (done:Bool) (out:List ByteArray):Prop :=
 (done=false∧out=l.take i∧∀ x ∈ l.take i,cmpS x s<0)∨(done=true∧∃ j,j<i∧out=l.take j++s :: (l.take i).drop j∧(∀ x ∈ l.take j,cmpS x s<0)∧∀ x,l[j]?=some x→cmpS s x<0)
theorem PutI.start (l:List ByteArray) (s:ByteArray):PutI l s 0 false []:=.inl ⟨rfl,rfl,fun x h => by simp at h⟩
section
variable {l out:List ByteArray} {s x:ByteArray} {i:Nat} {done:Bool}
theorem PutI.past (h:PutI l s i false out) (hx:l[i]?=some x) (hlt:cmpS x s<0):PutI l s (i+1) false (out++[x]):=by
 rcases h with ⟨_,rfl,h2⟩|⟨h1,_⟩
 ·obtain ⟨hl,rfl⟩:=List.getElem?_eq_some_iff.1 hx;refine .inl ⟨rfl,(List.take_succ_eq_append_getElem hl).symm,fun y hy => ?_⟩;rw [List.take_succ_eq_append_getElem hl,List.mem_append,List.mem_singleton] at hy;rcases hy with hy|rfl
  ·exact h2 y hy
  ·exact hlt
 ·cases h1
theorem PutI.here (h:PutI l s i false out) (hx:l[i]?=some x) (hlt:cmpS s x<0):PutI l s (i+1) true (out++[s]++[x]):=by
 rcases h with ⟨_,rfl,h2⟩|⟨h1,_⟩
 ·obtain ⟨hl,rfl⟩:=List.getElem?_eq_some_iff.1 hx;refine .inr ⟨rfl,i,by omega,?_,h2,fun y hy => by rw [hx] at hy;injection hy with hy;rw [← hy];exact hlt⟩;rw [List.take_succ_eq_append_getElem hl,List.drop_append_of_le_length (by rw [List.length_take];omega),List.drop_eq_nil_of_le (by rw [List.length_take];omega)];simp
 ·cases h1
theorem PutI.on (h:PutI l s i true out) (hx:l[i]?=some x):PutI l s (i+1) true (out++[x]):=by
 rcases h with ⟨h1,_⟩|⟨_,j,h1,rfl,h3,h4⟩
 ·cases h1
 ·obtain ⟨hl,rfl⟩:=List.getElem?_eq_some_iff.1 hx;refine .inr ⟨rfl,j,by omega,?_,h3,h4⟩;rw [List.take_succ_eq_append_getElem hl,List.drop_append_of_le_length (by rw [List.length_take];omega)];simp
theorem PutI.fin (hu:Up cmpS l) (h:PutI l s l.length done out):Up cmpS (if done=true then out else out++[s])∧∀ x,x ∈ (if done=true then out else out++[s])↔x ∈ l∨x=s:=by
 rcases h with ⟨rfl,rfl,h2⟩|⟨rfl,j,h1,rfl,h3,h4⟩
 ·rw [List.take_length] at h2 ⊢;refine ⟨List.pairwise_append.2 ⟨hu,List.pairwise_singleton _ _,fun a ha b hb => ?_⟩,fun x => by simp⟩;rw [List.mem_singleton] at hb;subst hb;exact h2 a ha
 ·rw [List.take_length,if_pos rfl]
  have hs:∀ y ∈ l.drop j,cmpS s y<0:=fun y hy => by
   obtain ⟨k,hk⟩:=List.getElem?_of_mem hy;rw [List.getElem?_drop] at hk;have h0:=h4 l[j] (List.getElem?_eq_getElem h1)
   by_cases hk0:k=0
   ·subst hk0;rw [Nat.add_zero,List.getElem?_eq_getElem h1] at hk;injection hk with hk
    rwa [hk] at h0
   ·exact totS.trans _ _ _ h0 (hu.at_lt (List.getElem?_eq_getElem h1) hk (by omega))
  have hsp:l.take j++l.drop j=l:=List.take_append_drop j l;have hu2:=hu;rw [← hsp] at hu2;obtain ⟨u1,u2,u3⟩:=List.pairwise_append.1 hu2;refine ⟨List.pairwise_append.2 ⟨u1,List.pairwise_cons.2 ⟨hs,u2⟩,fun a ha b hb => ?_⟩,fun x => ?_⟩
  ·rcases List.mem_cons.1 hb with rfl|hb
   ·exact h3 a ha
   ·exact u3 a ha b hb
  ·rw [List.mem_append,List.mem_cons]
   conv => rhs;rw [← hsp,List.mem_append]
   constructor
   ·rintro (h|h|h)
    ·exact .inl (.inl h)
    ·exact .inr h
    ·exact .inl (.inr h)
   ·rintro ((h|h)|h)
    ·exact .inl h
    ·exact .inr (.inr h)
    ·exact .inr (.inl h)
end
theorem totS_tri {x s:ByteArray} (h:x≠s):cmpS x s<0∨cmpS s x<0:=by
 rcases Int.lt_trichotomy (cmpS x s) 0 with h1|h1|h1
 ·exact .inl h1
 ·exact absurd ((totS.eq0 x s).1 h1) h
 ·exact .inr (by have:=totS.neg x s;omega)
set_option maxHeartbeats 1600000 in
set_option maxRecDepth 100000 in
theorem rput_any {B:Nat} (s:ByteArray) (A:Option Addr) (c:Nat) (L:List ByteArray) (w:World) (h:OwnL 1 B 9 RNm w (.slice A L.length c) L) (hU:Up cmpS L) (hB:B≤w.heap.size) (hl:L.length≤100000000) :
    Calls Tryz.prog 93 #[.slice A L.length c,.string s] w fun e w' => ∃ v L',e = .returned v∧OwnL 1 B 9 RNm w' v L'∧Up cmpS L'∧(∀ x,x ∈ L'↔x ∈ L∨x=s)∧L'.length≤L.length+1∧Fut w w':=by
 have H:=Hh h;have HU:=Hh hU;have HB:=Hh hB;clear h hU hB;have HH:=Hh (rhas9_any s A c L w H.out.rep (by decide));go_enter Tryz.func93,Tryz.ntmps93;go_wp2_with fail;refine HH.out.mono ?_;rintro e w1 ⟨rfl,hw1⟩;replace hw1:=hw1.symm;subst hw1;clear HH
 by_cases hin:s ∈ L
 ·have hd:decide (s ∈ L)=true:=decide_eq_true hin;rw [hd];go_wp2;go_ret;exact ⟨_,L,rfl,H.out,HU.out,fun x => ⟨.inl,fun h => h.elim id fun h => h ▸ hin⟩,by omega,Fut.refl _⟩
 ·have hd:decide (s ∈ L)=false:=decide_eq_false hin;rw [hd];have Hin:=Hh hin;clear hd hin;go_wp2_with fail;go_loopw [5,6,7] (fun u d i W => ∃ (k:Nat) (b:Bool) (out:List ByteArray),i = .int .i64 k∧k≤L.length∧d = .bool b∧Hid (PutI L s k b out)∧Hid (out.length≤cond b (k+1) k)∧Hid (Nms w.heap.size W u out)∧Hid (Fut w W)) (fun _ _ i _ => L.length - (intOf i).toNat)
  case atStart => exact ⟨0,false,[],rfl,Nat.zero_le _,rfl,Hh (PutI.start L s),Hh (Nat.zero_le _),Hh OwnL.nil,Hh (Fut.refl _)⟩
  case round =>
   obtain ⟨k,b,out,rfl,hk,rfl,hP,hLn,hO,hF⟩:=hrel;obtain ⟨wq,hwq⟩:∃ x,x=wr:=⟨_,rfl⟩
   subst hwq;obtain ⟨Au,cu,rfl,hu1,hu2⟩:=hO.out.rep.form
   by_cases hlt:k<L.length
   ·have hltI:(k:Int)<L.length:=by omega
    have e0:(0:Int)≤k∧(k:Int)<L.length:=by omega
    obtain ⟨bx,ox,rfl,uN⟩:=nm_at H.out.rep hlt;have u0:=hF.out.cell uN;have UN:=Hh uN;clear uN;have hxi:=Hh (show L[k]?=some L[k] from List.getElem?_eq_getElem hlt);have hne:L[k]≠s:=fun e => Hin.out (e ▸ List.getElem_mem hlt);generalize L[k]=x at *;cases b
    ·have hol:out.length≤k:=hLn.out;rcases totS_tri hne with hx|hx
     ·have hls:Op.bytesLess s.toList x.toList=false:=by
        rw [less_cmpS];exact decide_eq_false (by have:=totS.neg x s;omega)
      have HP2:=Hh (hP.out.past hxi.out hx);clear hP hLn;go_wp2_with (first|(at_builtin;refine wpList_append_LB (R:=RNm) (B:=w.heap.size) (M:=1) (xs:=out) (ys:=[x]) (e:=9) (wanted_none rfl _) _ _ tVl' rfl Tryz.underlying76 (.string ⟨#[]⟩) 16 infoNm rfl (by decide) RNm.one RNm.keeps rfl rfl (hO.out.fut RNm.stays (Fut.alloc _ _)) (nmOne _ _ _) ?l3 ?m3 ?b3 ?k3))
      case l3 => simp [maxLen];omega
      case m3 => simp;omega
      case b3 => have:=hF.out.size;simp;omega
      case k3 =>
      intro v3 w3 o3 g3 _;have HO2:=Hh o3;have HF2:=Hh ((hF.out.trans (Fut.alloc _ _)).grown g3 (fun k hk => (hO.out.block k hk).1));clear o3 g3;obtain ⟨A3,c3,rfl,_,_⟩:=HO2.out.rep.form;go_wp2;go_roundw
      case rel => exact ⟨k+1,false,_,by go_num,by omega,rfl,HP2,Hh (by simp [cond];omega),HO2,HF2⟩
      case measure => simp [intOf] <;> omega
     ·have hls:Op.bytesLess s.toList x.toList=true:=by
        rw [less_cmpS];exact decide_eq_true hx
      have HP2:=Hh (hP.out.here hxi.out hx);clear hP hLn;go_wp2_with (first|(at_builtin;refine wpList_append_LB (R:=RNm) (B:=w.heap.size) (M:=1) (xs:=out) (ys:=[s]) (e:=9) (wanted_none rfl _) _ _ tVl' rfl Tryz.underlying76 (.string ⟨#[]⟩) 16 infoNm rfl (by decide) RNm.one RNm.keeps rfl rfl (hO.out.fut RNm.stays (Fut.alloc _ _)) (nmOne _ _ _) ?l4 ?m4 ?b4 ?k4))
      case l4 => simp [maxLen];omega
      case m4 => simp;omega
      case b4 => have:=hF.out.size;simp;omega
      case k4 =>
      intro v4 w4 o4 g4 _;obtain ⟨out2,ho2⟩:∃ o,out++[s]=o:=⟨_,rfl⟩
      rw [ho2] at o4 HP2;have hol2:=Hh (show out2.length=out.length+1 by rw [← ho2];simp);have HO2:=Hh o4;have HF2:=Hh ((hF.out.trans (Fut.alloc _ _)).grown g4 (fun k hk => (hO.out.block k hk).1));clear o4 g4 ho2;obtain ⟨A4,c4,rfl,_,_⟩:=HO2.out.rep.form;have u1:=HF2.out.cell UN.out;clear u0;go_wp2_with (first|(at_builtin;refine wpList_append_LB (R:=RNm) (B:=w.heap.size) (M:=1) (xs:=out2) (ys:=[x]) (e:=9) (wanted_none rfl _) _ _ tVl' rfl Tryz.underlying76 (.string ⟨#[]⟩) 16 infoNm rfl (by decide) RNm.one RNm.keeps rfl rfl (HO2.out.fut RNm.stays (Fut.alloc _ _)) (nmOne _ _ _) ?l5 ?m5 ?b5 ?k5))
      case l5 => have h9:=hol2.out;simp [maxLen];omega
      case m5 => have h9:=hol2.out;simp;omega
      case b5 => have:=HF2.out.size;simp;omega
      case k5 =>
      intro v5 w5 o5 g5 _;have HO3:=Hh o5;have HF3:=Hh ((HF2.out.trans (Fut.alloc _ _)).grown g5 (fun k hk => (HO2.out.block k hk).1));clear o5 g5;obtain ⟨A5,c5,rfl,_,_⟩:=HO3.out.rep.form;go_wp2;go_roundw
      case rel => exact ⟨k+1,true,_,by go_num,by omega,rfl,HP2,Hh (by have h9:=hol2.out;simp [cond];omega),HO3,HF3⟩
      case measure => simp [intOf] <;> omega
    ·have hol:out.length≤k+1:=hLn.out;have HP2:=Hh (hP.out.on hxi.out);clear hP hLn;go_wp2_with (first|(at_builtin;refine wpList_append_LB (R:=RNm) (B:=w.heap.size) (M:=1) (xs:=out) (ys:=[x]) (e:=9) (wanted_none rfl _) _ _ tVl' rfl Tryz.underlying76 (.string ⟨#[]⟩) 16 infoNm rfl (by decide) RNm.one RNm.keeps rfl rfl (hO.out.fut RNm.stays (Fut.alloc _ _)) (nmOne _ _ _) ?l6 ?m6 ?b6 ?k6))
     case l6 => simp [maxLen];omega
     case m6 => simp;omega
     case b6 => have:=hF.out.size;simp;omega
     case k6 =>
     intro v6 w6 o6 g6 _;have HO2:=Hh o6;have HF2:=Hh ((hF.out.trans (Fut.alloc _ _)).grown g6 (fun k hk => (hO.out.block k hk).1));clear o6 g6;obtain ⟨A6,c6,rfl,_,_⟩:=HO2.out.rep.form;go_wp2;go_roundw
     case rel => exact ⟨k+1,true,_,by go_num,by omega,rfl,HP2,Hh (by simp [cond];omega),HO2,HF2⟩
     case measure => simp [intOf] <;> omega
   ·obtain rfl:k=L.length:=by omega
    have hfin:=Hh (hP.out.fin HU.out);cases b
    ·have hol:out.length≤L.length:=hLn.out;have hf:=hfin.out;simp only [Bool.false_eq_true,if_false] at hf;have Hf:=Hh hf;clear hP hLn hf hfin;go_wp2_with (first|(at_builtin;refine wpList_append_LB (R:=RNm) (B:=w.heap.size) (M:=1) (xs:=out) (ys:=[s]) (e:=9) (wanted_none rfl _) _ _ tVl' rfl Tryz.underlying76 (.string ⟨#[]⟩) 16 infoNm rfl (by decide) RNm.one RNm.keeps rfl rfl (hO.out.fut RNm.stays (Fut.alloc _ _)) (nmOne _ _ _) ?l7 ?m7 ?b7 ?k7))
     case l7 => simp [maxLen];omega
     case m7 => simp;omega
     case b7 => have:=hF.out.size;simp;omega
     case k7 =>
     intro v7 w7 o7 g7 _;have HO2:=Hh o7;have HF2:=Hh ((hF.out.trans (Fut.alloc _ _)).grown g7 (fun k hk => (hO.out.block k hk).1));clear o7 g7;obtain ⟨A7,c7,rfl,_,_⟩:=HO2.out.rep.form;go_wp2;go_ret;exact ⟨_,_,rfl,HO2.out.base HB.out,Hf.out.1,Hf.out.2,by simp;omega,HF2.out⟩
    ·have hol:out.length≤L.length+1:=hLn.out;have hf:=hfin.out;simp only [if_true] at hf;have Hf:=Hh hf;clear hP hf hfin;go_wp2;go_ret;exact ⟨_,_,rfl,hO.out.base HB.out,Hf.out.1,Hf.out.2,by omega,hF.out⟩
end Go.Proofs.YtobabnpllokkaaaGreatDoor
namespace Go.Proofs.YtobabnpllokkaaaGreatDoor
open Go.RowKit
set_option maxHeartbeats 800000 in
theorem rvariable_any (s:ByteArray) (w:World) (hs:s.size≤140737488351232):Calls Tryz.prog 360 #[.string s] w fun e w' => e = .returned (.bool (wordT 65 90 s))∧Fut w w':=by
 have hw:=Hh (written_any s 65 90 w hs (fun c h1 h2 => by simp [letterN];omega) (by omega));go_enter Tryz.func360,Tryz.ntmps360;go_wp2_with fail;refine hw.out.mono ?_;rintro e w1 ⟨rfl,rfl⟩;go_wp2;go_ret;exact ⟨rfl,Fut.refl _⟩
set_option maxHeartbeats 2000000 in
set_option maxRecDepth 100000 in
theorem rterm_any (t:Tm) (w:World) (ht:t.ok):Calls Tryz.prog 347 #[.agg #[.string t.v,.int .i8 t.x.k,.int .i64 t.x.n,.string t.x.s]] w fun e w' => e = .returned (.bool t.good)∧Fut w w':=by
 have HW:=Hh (fun W => rvariable_any t.v W ht.1);have HC:=Hh (fun W => rcheck_any t.x.k t.x.n t.x.s W ht.2.2.2);have hchk:=Hh (chk_or t.x.k t.x.n t.x.s);obtain ⟨b,hb⟩:∃ b,t.good=b:=⟨_,rfl⟩
 rw [hb];replace hb:=Hh hb;obtain ⟨v,k,n,s⟩:=t;clear ht;dsimp only at *;have hbx:=heap_alloc_new w (.cells #[.string v,.int .i8 k,.int .i64 n,.string s] 115);have f0:=Fut.alloc w (.cells #[.string v,.int .i8 k,.int .i64 n,.string s] 115);have hs1:(w.alloc (.cells #[.string v,.int .i8 k,.int .i64 n,.string s] 115)).heap.size=w.heap.size+1:=by simp
 have f1:=Fut.alloc (w.alloc (.cells #[.string v,.int .i8 k,.int .i64 n,.string s] 115)) (.cells #[.int .i8 0,.int .i64 0,.string ⟨#[]⟩] 113);have hb2:=heap_alloc_new (w.alloc (.cells #[.string v,.int .i8 k,.int .i64 n,.string s] 115)) (.cells #[.int .i8 0,.int .i64 0,.string ⟨#[]⟩] 113);rw [hs1] at hb2;have hb1:=f1.block hbx;have F01:=Hh (f0.trans f1);have HB1:=Hh hb1;have HB2:=Hh hb2;clear hbx f0 f1 hs1 hb1 hb2
 by_cases hv:v.toList=[]
 ·have hvb:(v.toList == [])=true:=by rw [hv];rfl
  rcases hchk.out with hc|hc
  ·obtain rfl:b=true:=by rw [← hb.out];simp [Tm.good,hv,hc]
   rw [hc] at HC;go_enter Tryz.func347,Tryz.ntmps347;go_wp2_with fail;refine (HC.out _).mono ?_;rintro e w1 ⟨rfl,f1⟩;go_wp2;go_ret;exact ⟨rfl,F01.out.trans f1⟩
  ·obtain rfl:b=false:=by rw [← hb.out];simp [Tm.good,hv,hc]
   rw [hc] at HC;go_enter Tryz.func347,Tryz.ntmps347;go_wp2_with fail;refine (HC.out _).mono ?_;rintro e w1 ⟨rfl,f1⟩;go_wp2;go_ret;exact ⟨rfl,F01.out.trans f1⟩
 ·have hvb:(v.toList == [])=false:=by rw [beq_eq_false_iff_ne];exact hv
  by_cases hu:v.toList=[95]
  ·have hub:(v.toList == [95])=true:=by rw [hu];rfl
   have hgo:b=(decide (k=0) && decide (n=0) && decide (s.toList=[])):=by rw [← hb.out];simp [Tm.good,hu]
   go_enter Tryz.func347,Tryz.ntmps347;go_wp2
   all_goals go_ret
   all_goals refine ⟨?_,(Fut.alloc _ _).trans (Fut.alloc _ _)⟩
   all_goals (rw [hgo];simp_all)
  ·have hub:(v.toList == [95])=false:=by rw [beq_eq_false_iff_ne];exact hu
   have hgo:b=((decide (k=0) && decide (n=0) && decide (s.toList=[])) && wordT 65 90 v):=by rw [← hb.out];simp [Tm.good,hu,hv]
   obtain ⟨q,hq⟩:∃ q,wordT 65 90 v=q:=⟨_,rfl⟩
   rw [hq] at HW hgo;clear hq hb;go_enter Tryz.func347,Tryz.ntmps347;go_wp2_with fail;refine (HW.out _).mono ?_;rintro e w1 ⟨rfl,f1⟩;have F1:=Hh (F01.out.trans f1);have b1:=f1.block HB1.out;have b2:=f1.block HB2.out;have c1:=cell_at b1 1 _ rfl;have c2:=cell_at b1 2 _ rfl;have c3:=cell_at b1 3 _ rfl;have d0:=cell_at b2 0 _ rfl;have d1:=cell_at b2 1 _ rfl;have d2:=cell_at b2 2 _ rfl;clear f1 b1 b2;cases q
   ·go_wp2;go_ret;exact ⟨by rw [hgo];simp,F1.out⟩
   ·go_wp2
    all_goals go_ret
    all_goals refine ⟨?_,F1.out⟩
    all_goals (rw [hgo];simp_all)
end Go.Proofs.YtobabnpllokkaaaGreatDoor
namespace Go.Proofs.YtobabnpllokkaaaGreatDoor
open Go.RowKit
theorem sl_rowR {α:Type} {sz M:Nat} {R:World→List Value→α→Prop} {w:World} {A:Option Addr} {n cap:Nat} {xs:List α} (h:SlRep sz M R w (.slice A n cap) xs) {k:Nat} (hk:k<xs.length) :
    ∃ b off cs,A=some ⟨b,off,none⟩∧R w cs xs[k]∧cs.length=sz∧∀ j v,cs[j]?=some v→w.cell? ⟨b,off+k * sz+j,none⟩=some v:=by
 obtain ⟨A1,cap1,hv,_,_,h3⟩:=h;obtain ⟨b,off,cs,hA,hl,hc,hr⟩:=h3 k _ (List.getElem?_eq_getElem hk);injection hv with hv _ _
 exact ⟨b,off,cs,hv.trans hA,hr,hl,fun j v hj => by rw [Nat.add_assoc];exact hc j v hj⟩
theorem infoTm4':(Tryz.prog.info? 115).map (·.size)=some 4:=by kernel_rfl
theorem arity_one {op:Int} (h:op=1∨(8≤op∧op≤10)):arityE op=1:=by
 unfold arityE;rw [if_pos (by omega)]
theorem arity_two {op:Int} (h:¬ (op=1∨(8≤op∧op≤10))) (h2:2≤op∧op≤7):arityE op=2:=by
 unfold arityE;rw [if_neg (by omega),if_pos (by omega)]
theorem arity_none {op:Int} (h:¬ (op=1∨(8≤op∧op≤10))) (h2:¬ (2≤op∧op≤7)):arityE op = -1:=by
 unfold arityE;rw [if_neg (by omega),if_neg (by omega)]
set_option maxHeartbeats 1600000 in
theorem rkids_any (op:Int) (w:World):Calls Tryz.prog 361 #[.int .i8 op] w fun e w' => e = .returned (.int .i64 (arityE op))∧Fut w w':=by
 by_cases h1:op=1
 ·rw [arity_one (.inl h1)];subst h1;go_enter Tryz.func361,Tryz.ntmps361;go_wp2;go_ret;exact ⟨rfl,Fut.refl _⟩
 ·have b1:(op == 1)=false:=by rw [beq_eq_false_iff_ne];exact h1
  by_cases h2:8≤op∧op≤10
  ·rw [arity_one (.inr h2)];obtain ⟨h3,h4⟩:=h2;have h3':op≥8:=h3;go_enter Tryz.func361,Tryz.ntmps361;go_wp2;go_ret;exact ⟨rfl,Fut.refl _⟩
  ·by_cases h5:2≤op∧op≤7
   ·rw [arity_two (by omega) h5];obtain ⟨h6,h7⟩:=h5;have h6':op≥2:=h6;have h8:¬ 8≤op:=by omega
    have h8':¬ op≥8:=by omega
    go_enter Tryz.func361,Tryz.ntmps361;go_wp2;go_ret;exact ⟨rfl,Fut.refl _⟩
   ·rw [arity_none (by omega) h5]
    by_cases h8:8≤op
    ·have h8':op≥8:=h8;have h9:¬ op≤10:=by omega
     have h10:2≤op:=by omega
     have h11:¬ op≤7:=by omega
     go_enter Tryz.func361,Tryz.ntmps361;go_wp2;go_ret;exact ⟨rfl,Fut.refl _⟩
    ·have h8':¬ op≥8:=h8;have h10:¬ 2≤op:=by omega
     go_enter Tryz.func361,Tryz.ntmps361;go_wp2;go_ret;exact ⟨rfl,Fut.refl _⟩
set_option maxHeartbeats 1600000 in
theorem rnothing_any (x:Ex) (A:Option Addr) (c:Nat) (w:World):Calls Tryz.prog 349 #[.agg (x.cs (.slice A x.kids.length c)).toArray] w fun e w' => e = .returned (.bool x.empty)∧Fut w w':=by
 obtain ⟨b,hb⟩:∃ b,x.empty=b:=⟨_,rfl⟩
 rw [hb];obtain ⟨op,⟨v,⟨k,n,s⟩⟩,ks⟩:=x;replace hb:(decide (op=0) && (decide (v.toList=[]) && decide (k=0) && decide (n=0) && decide (s.toList=[])) && decide (ks.length=0))=b:=hb;show Calls _ _ #[.agg #[.int .i8 op,.string v,.int .i8 k,.int .i64 n,.string s,.slice A ks.length c]] w _;generalize ks.length=l at *
 by_cases h0:op=0
 ·subst h0
  by_cases hz:v.toList=[]∧k=0∧n=0∧s.toList=[]
  ·obtain ⟨hv,rfl,rfl,hs⟩:=hz;go_enter Tryz.func349,Tryz.ntmps349;go_wp2;go_ret;refine ⟨?_,(Fut.alloc _ _).trans (Fut.alloc _ _)⟩;rw [← hb];simp [hv,hs];rw [Bool.eq_iff_iff];simp
  ·have hbf:b=false:=by
     rw [← hb,Bool.eq_false_iff];intro h;simp at h;exact hz ⟨h.1.1.1.1,h.1.1.1.2,h.1.1.2,h.1.2⟩
   rw [hbf];clear hb hbf;go_enter Tryz.func349,Tryz.ntmps349;go_wp2
   all_goals first
    | (exfalso;apply hz;refine ⟨?_,?_,?_,?_⟩ <;> first|rfl|assumption)
    | (go_ret;exact ⟨rfl,(Fut.alloc _ _).trans (Fut.alloc _ _)⟩)
 ·have hbf:b=false:=by rw [← hb,decide_eq_false h0];rfl
  have h0b:(op == 0)=false:=by rw [beq_eq_false_iff_ne];exact h0
  rw [hbf];clear hb hbf;go_enter Tryz.func349,Tryz.ntmps349;go_wp2;go_ret;exact ⟨rfl,(Fut.alloc _ _).trans (Fut.alloc _ _)⟩
set_option maxHeartbeats 1600000 in
set_option maxRecDepth 100000 in
theorem ratom_any {M:Nat} (p:ByteArray) (A:Option Addr) (c:Nat) (xs:List Tm) (w:World) (h:SlRep 4 M RTm w (.slice A xs.length c) xs) (hM:M≤9223372036854775807) (hp:p.size≤140737488351232) :
    Calls Tryz.prog 348 #[.agg #[.string p,.slice A xs.length c]] w fun e w' => e = .returned (.bool (atomG p xs))∧Fut w w':=by
 have HN:=Hh (fun W => rname_any p W hp);have hnv:nameV p=nameT p:=by rw [nameV_eq,Bool.and_comm];rfl
 rw [hnv] at HN;have hxl:xs.length≤9223372036854775807:=by obtain ⟨_,_,hv,h8,h9⟩:=h.form;omega
 have H:=Hh h;obtain ⟨b,hb⟩:∃ b,atomG p xs=b:=⟨_,rfl⟩
 rw [hb];unfold atomG at hb;have hbx:=heap_alloc_new w (.cells #[.string p,.slice A xs.length c] 108);have f0:=Fut.alloc w (.cells #[.string p,.slice A xs.length c] 108);have F0:=Hh f0;have HB:=Hh hbx;have c1:=Hh (cell_at hbx 1 _ rfl);obtain ⟨nb,hnb⟩:∃ q,nameT p=q:=⟨_,rfl⟩
 rw [hnb] at hb HN;clear h hnv hnb hbx f0;go_enter Tryz.func348,Tryz.ntmps348;go_wp2_with fail;refine (HN.out _).mono ?_;rintro e w1 ⟨rfl,f1⟩;have F1:=Hh (F0.out.trans f1);have d1:=f1.cell c1.out;clear f1 HN HB;cases nb
 ·obtain rfl:false=b:=hb;go_wp2;go_ret;exact ⟨rfl,F1.out⟩
 ·by_cases hl:xs.length≤24
  ·have hlI:¬ ((xs.length:Int) > 24):=by omega
   have hlI2:¬ ((24:Int)<xs.length):=by omega
   have hall:xs.all Tm.good=b:=by rw [← hb,decide_eq_true hl];simp
   have D1:=Hh d1;have hall':=Hh hall;clear hb hall;go_wp2_with fail;go_loopw [3] (fun i wr => ∃ k:Nat,k≤xs.length∧i = .int .i64 k∧Hid (∀ x ∈ xs.take k,x.good=true)∧Hid (Fut w1 wr)) (fun i _ => xs.length - (intOf i).toNat)
   case atStart => exact ⟨0,Nat.zero_le _,rfl,Hh (fun x hx => by simp at hx),Hh (Fut.refl _)⟩
   case round =>
    obtain ⟨k,hk,rfl,hI,hF⟩:=hrel;have g1:=hF.out.cell D1.out
    by_cases hlt:k<xs.length
    ·have hltI:(k:Int)<xs.length:=by omega
     have e0:(0:Int)≤k∧(k:Int)<xs.length:=by omega
     obtain ⟨b',off,cs,rfl,hr,_,hcs⟩:=sl_rowR (H.out.fut RTm.stays (F1.out.trans hF.out)) hlt;obtain ⟨rfl,hok⟩:=hr;have htk:=Hh (List.take_succ_eq_append_getElem hlt);have hmem:=Hh (List.getElem_mem hlt);generalize xs[k]=z at *;have HT:=Hh (rterm_any z wr hok);have hcs9:=Hh hcs;have hi4:=infoTm4';clear hcs hok;go_wp2_with (first|(show wpList _ _ _ (Oper.mk _ (Op.load 115 _) _ _ _ _ :: _) _ _;refine Go.wpList_load_mid rfl _ _ rfl b' (off+k * 4) rfl z.cells _ hcs9.out Tryz.underlying115 rfl hi4 ?_));refine HT.out.mono ?_;rintro e w3 ⟨rfl,f3⟩;have F3:=Hh (hF.out.trans f3);clear f3 HT;cases hg:z.good
     ·have hbf:b=false:=by
        rw [← hall'.out,List.all_eq_false];exact ⟨z,hmem.out,by rw [hg];decide⟩
      subst hbf;go_wp2;go_ret;exact ⟨rfl,F1.out.trans F3.out⟩
     ·have HI:=Hh (show ∀ x ∈ xs.take (k+1),x.good=true from fun x hx => by
        rw [htk.out,List.mem_append] at hx;rcases hx with hx|hx
        ·exact hI.out x hx
        ·rw [List.mem_singleton] at hx;rw [hx];exact hg)
      go_wp2;go_roundw
      case rel => exact ⟨k+1,by omega,by go_num,HI,F3⟩
      case measure => simp [intOf] <;> omega
    ·obtain rfl:k=xs.length:=by omega
     have hbt:b=true:=by
      rw [← hall'.out,List.all_eq_true];intro x hx;exact hI.out x (by rw [List.take_length];exact hx)
     subst hbt;go_wp2;go_ret;exact ⟨rfl,F1.out.trans hF.out⟩
  ·have hlI:(xs.length:Int) > 24:=by omega
   have hlI2:(24:Int)<xs.length:=by omega
   obtain rfl:b=false:=by rw [← hb,decide_eq_false hl];rfl
   go_wp2;go_ret;exact ⟨rfl,F1.out⟩
end Go.Proofs.YtobabnpllokkaaaGreatDoor
