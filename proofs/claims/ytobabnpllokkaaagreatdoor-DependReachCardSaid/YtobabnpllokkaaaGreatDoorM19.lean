/- Parts. -/
import Derived.Test.YtobabnpllokkaaaGreatDoorM18
import Derived.Test.YtobabnpllokkaaaGreatDoorM16
import Derived.Test.YtobabnpllokkaaaGreatDoorM17
import Derived.Test.YtobabnpllokkaaaGreatDoorM14
import Derived.Test.YtobabnpllokkaaaGreatDoorM00
set_option linter.unusedSimpArgs false
set_option linter.unusedVariables false
namespace Go.Proofs.YtobabnpllokkaaaGreatDoor
open Go.RowKit
theorem nodup_le:∀ {l m:List ByteArray},l.Nodup→(∀ x ∈ l,x ∈ m)→l.length ≤ m.length
 | [],m,_,_ => Nat.zero_le _
 | x :: l,m,hn,hs => by
  rw [List.nodup_cons] at hn
  obtain ⟨a,b,rfl⟩:=List.append_of_mem (hs x List.mem_cons_self)
  have:=nodup_le (l:=l) (m:=a ++ b) hn.2 fun y hy => by
   have h1:=hs y (List.mem_cons_of_mem _ hy)
   rw [List.mem_append,List.mem_cons] at h1
   rw [List.mem_append]
   rcases h1 with h1 | h1 | h1
   ·exact .inl h1
   ·exact absurd (h1 ▸ hy) hn.1
   ·exact .inr h1
  rw [List.length_append] at this
  rw [List.length_cons,List.length_append,List.length_cons]
  omega
section
variable {G:Gr} {T0 T T':TS} {s t:ByteArray} {ts:List ByteArray} {m k:Nat}
theorem TInv.vis_le (h:TInv G T):T.vis.length ≤ G.names.length:=nodup_le h.nd h.nm
theorem TInv.dn_le (h:TInv G T):T.dn.length ≤ G.names.length:=nodup_le h.ndI fun x hx => h.nm x ((h.part x).2 (.inr hx))
theorem TInv.fine (h:TInv G T) (hB:G.names.length ≤ 100000000):T.fine = true:=by
 have h1:=h.vis_le
 have h2:=h.dn_le
 have h3:=h.sub.length_le
 have h4:=h.olen
 rw [vis_len] at h1 h3
 have h5:T.dn.length = T.inn.length:=List.length_map _
 unfold TS.fine
 simp only [Bool.and_eq_true,decide_eq_true_eq]
 omega
theorem TLoop.pop (h:TLoop G T0 s ts T m) (h0:TInv G T0) (hts:∀ t ∈ sucs G s,t ∈ ts) (hm:¬ m < T0.low.length + 1) (hs0:s ∉ T0.vis) (hf:T.fine = true):∃ T',finT T s (T0.low.length + 1) = some (T',T0.low.length + 1)∧TPost G T0 s T' (T0.low.length + 1):=by
 obtain ⟨R,h1,h2,h3⟩:=h.res
 obtain ⟨M,hM⟩:=h.vis
 obtain rfl:m = T0.low.length + 1:=by have:=h.mle;omega
 have hv0:∀ u ∈ T0.stk,u ∈ T0.vis:=fun u hu => (h0.part u).2 (.inl hu)
 have hsS:s ∉ T0.stk:=fun q => hs0 (hv0 s q)
 have hix:ixN T.vis s = T0.low.length + 1:=by rw [hM,ixN_new hs0,vis_len]
 have hix0:∀ u ∈ T0.stk,ixN T.vis u ≤ T0.low.length:=fun u hu => by
  rw [hM,ixN_app (hv0 u hu),← vis_len]
  exact (ixN_in (hv0 u hu)).2
 have hnS:=h.inv.sub.nodup h.inv.nd
 rw [h1] at hnS
 obtain ⟨n1,n2,n3⟩:=List.nodup_append.1 hnS
 have hstk:∀ u,u ∈ s :: R→u ∈ T.stk:=fun u hu => by rw [h1];exact List.mem_append_right _ hu
 -- edges of the segment stay in it,or go to what is done
 have hedge:∀ u ∈ s :: R,∀ t ∈ sucs G u,t ∈ T.dn∨t ∈ s :: R:=fun u hu t ht => by
  have lowt:t ∈ T0.stk→∃ l,(t,l) ∈ T0.low∧l ≤ T0.low.length:=fun q => by
   obtain ⟨n,v,a,b,c,d,e⟩:=h0.low t q
   have:=(ixN_in (hv0 t q)).2
   rw [vis_len] at this
   exact ⟨n,a,by omega⟩
  rcases List.mem_cons.1 hu with e | hu
  ·subst e
   rcases h3 t (hts t ht) with q | q | ⟨q1,q2⟩
   ·exact .inl q
   ·exact .inr q
   ·obtain ⟨l,l1,l2⟩:=lowt q1
    have:=q2 l l1
    omega
  ·obtain ⟨_,n,_,a,_,b⟩:=h2 u hu
   rcases b t ht with q | q | ⟨q1,q2⟩
   ·exact .inl q
   ·exact .inr q
   ·obtain ⟨l,l1,l2⟩:=lowt q1
    have:=q2 l l1
    omega
 have hfrom:∀ u ∈ s :: R,Rch G s u:=fun u hu => by
  rcases List.mem_cons.1 hu with e | hu
  ·rw [e];exact .refl s
  ·exact (h2 u hu).1
 have hto:∀ i u,ixN T.vis u = i→u ∈ s :: R→Rch G u s:=fun i => by
  induction i using Nat.strongRecOn with
  | _ i ih =>
   intro u hi hu
   rcases List.mem_cons.1 hu with e | hR
   ·rw [e];exact .refl s
   ·obtain ⟨_,n,a,b,c,_⟩:=h2 u hR
    obtain ⟨n',v,a',b',c',d',e'⟩:=h.inv.low u (hstk u hu)
    have hnn:n' = n:=key_one h.inv.nd a' a
    subst hnn
    have hvR:v ∈ s :: R:=by
     rw [h1] at b'
     rcases List.mem_append.1 b' with q | q
     ·have:=hix0 v q
      omega
     ·exact q
    exact e'.trans (ih (ixN T.vis v) (by omega) v rfl hvR)
 have hback:∀ u ∈ s :: R,Rch G u s:=fun u hu => hto _ u rfl hu
 obtain ⟨P,hP⟩:∃ P,sortU cmpS (s :: R) = P:=⟨_,rfl⟩
 have hPm:∀ u,u ∈ P↔u ∈ s :: R:=fun u => by rw [← hP];exact (sortU_spec totS _).2 u
 have hPu:Up cmpS P:=by rw [← hP];exact (sortU_spec totS _).1
 have hPn:P.Nodup:=up_nodup hPu
 have hPd:∀ u ∈ P,u ∉ T.dn:=fun u hu => h.inv.dis u (hstk u ((hPm u).1 hu))
 have hdrop:T.stk.drop T0.stk.length = s :: R:=by rw [h1,List.drop_left]
 have htake:T.stk.take T0.stk.length = T0.stk:=by rw [h1,List.take_left]
 have hany:((s :: R).any fun t => (lkN T.inn t).isSome) = false:=by
  rw [List.any_eq_false]
  intro u hu q
  have hn:lkN T.inn u = none:=lk_none_iff.2 (h.inv.dis u (hstk u hu))
  rw [hn] at q
  cases q
 have hfin:finT T s (T0.low.length + 1) = some ({ T with stk:=T0.stk,inn:=T.inn ++ P.map (fun t => (t,T.out.length)),out:=T.out ++ [P] },T0.low.length + 1):=by
  unfold finT
  rw [h1,idxP_new hsS]
  dsimp only
  rw [← h1,hdrop,htake,if_pos ⟨hf,nodupB_of n2,hany⟩,hP]
 have hdn:TS.dn { T with stk:=T0.stk,inn:=T.inn ++ P.map (fun t => (t,T.out.length)),out:=T.out ++ [P] } = T.dn ++ P:=by
  unfold TS.dn
  rw [List.map_append,List.map_map]
  congr 1
  exact List.map_id P
 have hvs:TS.vis { T with stk:=T0.stk,inn:=T.inn ++ P.map (fun t => (t,T.out.length)),out:=T.out ++ [P] } = T.vis:=rfl
 have hin:∀ u j,(u,j) ∈ T.inn ++ P.map (fun t => (t,T.out.length))↔(u,j) ∈ T.inn∨(u ∈ P∧j = T.out.length):=fun u j => by
  rw [List.mem_append,List.mem_map]
  constructor
  ·rintro (q | ⟨x,hx,e⟩)
   ·exact .inl q
   ·injection e with e1 e2
    exact .inr ⟨by rw [← e1];exact hx,e2.symm⟩
  ·rintro (q | ⟨q,rfl⟩)
   ·exact .inl q
   ·exact .inr ⟨u,q,rfl⟩
 have hdi:∀ u j,(u,j) ∈ T.inn→u ∈ T.dn:=fun u j q => List.mem_map.2 ⟨_,q,rfl⟩
 have hclo:∀ u ∈ T.dn ++ P,∀ t ∈ sucs G u,t ∈ T.dn ++ P:=fun u hu t ht => by
  rw [List.mem_append] at hu ⊢
  rcases hu with hu | hu
  ·exact .inl (h.inv.clo u hu t ht)
  ·rcases hedge u ((hPm u).1 hu) t ht with q | q
   ·exact .inl q
   ·exact .inr ((hPm t).2 q)
 refine ⟨_,hfin,⟨by rw [hvs];exact h.inv.nd,by rw [hvs];exact (List.sublist_append_left _ _).trans (h1 ▸ h.inv.sub),fun u => ?_,fun u hu => ?_,by rw [hvs];exact h.inv.nm,?_,by rw [hdn];exact hclo,?_,?_,?_,?_,?_,?_⟩,⟨M,by rw [hvs,hM]⟩,h.keep,fun x hx => List.mem_append_left _ (h.inn x hx),Nat.le_refl _,[],(List.append_nil _).symm,.inl ⟨rfl,rfl,?_⟩,fun u hu => (by cases hu)⟩
 ·rw [hvs,hdn,h.inv.part u,h1,List.mem_append,List.mem_append,hPm]
  constructor
  ·rintro ((q | q) | q)
   ·exact .inl q
   ·exact .inr (.inr q)
   ·exact .inr (.inl q)
  ·rintro (q | q | q)
   ·exact .inl (.inl q)
   ·exact .inr q
   ·exact .inl (.inr q)
 ·rw [hdn,List.mem_append]
  rintro (q | q)
  ·exact h.inv.dis u (by rw [h1];exact List.mem_append_left _ hu) q
  ·exact n3 u hu u ((hPm u).1 q) rfl
 ·rw [hdn,List.nodup_append]
  exact ⟨h.inv.ndI,hPn,fun a ha b hb e => hPd b hb (e ▸ ha)⟩
 ·intro u i v j hu hv
  rcases (hin u i).1 hu with q | ⟨q,rfl⟩ <;> rcases (hin v j).1 hv with p | ⟨p,rfl⟩
  ·exact h.inv.cmp u i v j q p
  ·constructor
   ·intro e
    have:=h.inv.num _ q
    simp only at this
    omega
   ·rintro ⟨c1,_⟩
    exact absurd (c1.closed (D:=fun x => x ∈ T.dn) h.inv.clo (hdi u i q)) (hPd v p)
  ·constructor
   ·intro e
    have:=h.inv.num _ p
    simp only at this
    omega
   ·rintro ⟨_,c1⟩
    exact absurd (c1.closed (D:=fun x => x ∈ T.dn) h.inv.clo (hdi v j p)) (hPd u q)
  ·exact ⟨fun _ => ⟨(hback u ((hPm u).1 q)).trans (hfrom v ((hPm v).1 p)),(hback v ((hPm v).1 p)).trans (hfrom u ((hPm u).1 q))⟩,fun _ => rfl⟩
 ·intro u i t j hu ht htj
  rcases (hin u i).1 hu with q | ⟨q,rfl⟩ <;> rcases (hin t j).1 htj with p | ⟨p,rfl⟩
  ·exact h.inv.ord u i t j q ht p
  ·exact absurd (h.inv.clo u (hdi u i q) t ht) (hPd t p)
  ·have:=h.inv.num _ p
   simp only at this
   omega
  ·exact Nat.le_refl _
 ·rintro ⟨u,i⟩ hu
  show i < (T.out ++ [P]).length
  rw [List.length_append,List.length_singleton]
  rcases (hin u i).1 hu with q | ⟨q,rfl⟩
  ·have:=h.inv.num _ q
   simp only at this
   omega
  ·omega
 ·intro j Q hQ
  rw [List.getElem?_append] at hQ
  split at hQ
  ·rename_i hj
   obtain ⟨a,b,c⟩:=h.inv.outp j Q hQ
   refine ⟨a,b,fun u => (c u).trans ⟨fun q => (hin u j).2 (.inl q),fun q => ?_⟩⟩
   rcases (hin u j).1 q with q | ⟨q,e⟩
   ·exact q
   ·omega
  ·rename_i hj
   have hj2:j = T.out.length:=by
    have:=(List.getElem?_eq_some_iff.1 hQ).1
    rw [List.length_singleton] at this
    omega
   subst hj2
   rw [Nat.sub_self] at hQ
   injection hQ with hQ
   subst hQ
   refine ⟨fun e => ?_,hPu,fun u => ⟨fun q => (hin u _).2 (.inr ⟨q,rfl⟩),fun q => ?_⟩⟩
   ·have:=(hPm s).2 List.mem_cons_self
    rw [e] at this
    cases this
   ·rcases (hin u _).1 q with q | ⟨q,_⟩
    ·have:=h.inv.num _ q
     simp only at this
     omega
    ·exact q
 ·show (T.out ++ [P]).length ≤ (T.inn ++ P.map (fun t => (t,T.out.length))).length
  rw [List.length_append,List.length_append,List.length_map,List.length_singleton]
  have h9:=h.inv.olen
  have:0 < P.length:=List.length_pos_iff.2 fun e => by
   have:=(hPm s).2 List.mem_cons_self
   rw [e] at this
   cases this
  omega
 ·intro u hu
  rw [hvs]
  obtain ⟨n,v,a,b,c,d,e⟩:=h.inv.low u (by rw [h1];exact List.mem_append_left _ hu)
  refine ⟨n,v,a,?_,c,d,e⟩
  rw [h1] at b
  rcases List.mem_append.1 b with q | q
  ·exact q
  ·have:=ixN_sub h.inv.nd (h1 ▸ h.inv.sub) hu q
   omega
 ·rw [hdn]
  exact List.mem_append_right _ ((hPm s).2 List.mem_cons_self)
theorem loop_ok (n:Nat) (hG:∀ u ∈ G.names,∀ t ∈ sucs G u,t ∈ G.names) (hs:s ∈ G.names) (hle:G.names.length ≤ n + 1 + T0.vis.length)
    (ih:∀ (T:TS) (t:ByteArray),TInv G T→t ∉ T.vis→t ∈ G.names→G.names.length ≤ n + T.vis.length→∃ T' k,visitT G n T t = some (T',k)∧TPost G T t T' k) :
    ∀ (rest done:List ByteArray) (T:TS) (m:Nat),TLoop G T0 s done T m→(∀ t ∈ rest,t ∈ sucs G s)→∃ T' m',rest.foldl (stepT (visitT G n)) (some (T,m)) = some (T',m')∧TLoop G T0 s (done ++ rest) T' m'
 | [],done,T,m,h,_ => ⟨T,m,rfl,by rw [List.append_nil];exact h⟩
 | t :: rest,done,T,m,h,hr => by
  have he:=hr t List.mem_cons_self
  obtain ⟨M,hM⟩:=h.vis
  have hlen:G.names.length ≤ n + T.vis.length:=by
   rw [hM,List.length_append,List.length_cons]
   omega
  have hrest:∀ x ∈ rest,x ∈ sucs G s:=fun x hx => hr x (List.mem_cons_of_mem _ hx)
  rw [List.foldl_cons]
  have hgo:∀ T1 m1,TLoop G T0 s (done ++ [t]) T1 m1→stepT (visitT G n) (some (T,m)) t = some (T1,m1)→∃ T' m',rest.foldl (stepT (visitT G n)) (stepT (visitT G n) (some (T,m)) t) = some (T',m')∧TLoop G T0 s (done ++ t :: rest) T' m':=fun T1 m1 h1 e => by
   rw [e]
   obtain ⟨T',m',a,b⟩:=loop_ok n hG hs hle ih rest (done ++ [t]) T1 m1 h1 hrest
   exact ⟨T',m',a,by rw [List.append_assoc] at b;exact b⟩
  cases hi:lkN T.inn t with
  | some q =>
   have hd:t ∈ T.dn:=List.mem_map.2 ⟨_,(lk_iff h.inv.ndI).1 hi,rfl⟩
   exact hgo T m (h.done hd) (by unfold stepT;simp only [hi])
  | none =>
   have hd:t ∉ T.dn:=lk_none_iff.1 hi
   cases hl:lkN T.low t with
   | some q => exact hgo T (min m q) (h.back he hd ((lk_iff h.inv.nd).1 hl)) (by unfold stepT;simp only [hi,hl])
   | none =>
    obtain ⟨T1,k1,a,b⟩:=ih T t h.inv (lk_none_iff.1 hl) (hG s hs t he) hlen
    exact hgo T1 (min m k1) (h.child he b) (by unfold stepT;simp only [hi,hl,a])
theorem visit_ok (hG:∀ u ∈ G.names,∀ t ∈ sucs G u,t ∈ G.names) (hB:G.names.length ≤ 100000000) :
    ∀ (n:Nat) (T:TS) (s:ByteArray),TInv G T→s ∉ T.vis→s ∈ G.names→G.names.length ≤ n + T.vis.length→∃ T' k,visitT G n T s = some (T',k)∧TPost G T s T' k
 | 0,T,s,h,hs,hn,hle => by
  exfalso
  have:=nodup_le (l:=s :: T.vis) (m:=G.names) (List.nodup_cons.2 ⟨hs,h.nd⟩) fun x hx => by
   rcases List.mem_cons.1 hx with e | hx
   ·rw [e];exact hn
   ·exact h.nm x hx
  rw [List.length_cons] at this
  omega
 | n + 1,T,s,h,hs,hn,hle => by
  have hstart:=h.start hs hn
  obtain ⟨T2,m,e1,h2⟩:=loop_ok n hG hn hle (visit_ok hG hB n) (sucs G s) [] _ _ hstart fun t ht => ht
  rw [List.nil_append] at h2
  have hlow:lkN T.low s = none:=lk_none_iff.2 hs
  by_cases hm:m < T.low.length + 1
  ·refine ⟨_,_,?_,h2.stay (fun t ht => ht) hm hs⟩
   unfold visitT
   rw [if_pos ⟨h.fine hB,hlow⟩,e1]
   dsimp only
   rw [if_pos hm,(lk_iff h2.inv.nd).2 h2.mine]
  ·obtain ⟨T',a,b⟩:=h2.pop h (fun t ht => ht) hm hs (h2.inv.fine hB)
   refine ⟨T',_,?_,b⟩
   unfold visitT
   rw [if_pos ⟨h.fine hB,hlow⟩,e1]
   dsimp only
   rw [if_neg hm,a]
end
theorem ixN_not {l r:List ByteArray} {u:ByteArray} (h:u ∉ l):ixN (l ++ r) u = l.length + ixN r u:=by
 induction l with
 | nil => rw [List.nil_append,List.length_nil,Nat.zero_add]
 | cons x l ih =>
  rw [List.cons_append]
  show (if x = u then 1 else ixN (l ++ r) u + 1) = _
  rw [if_neg (fun e => h (by rw [← e];exact List.mem_cons_self)),ih (fun q => h (List.mem_cons_of_mem _ q)),List.length_cons]
  omega
theorem TPost.empty {G:Gr} {T0 T:TS} {s:ByteArray} {k:Nat} (h:TPost G T0 s T k) (h0:TInv G T0) (hs:T0.stk = []):T.stk = []∧s ∈ T.dn:=by
 obtain ⟨R,h1,h2,_⟩:=h.res
 rw [hs,List.nil_append] at h1
 rcases h2 with ⟨e,_,hd⟩ | ⟨R',_,hk,v,a,b,c⟩
 ·exact ⟨h1.trans e,hd⟩
 ·exfalso
  obtain ⟨M,hM⟩:=h.vis
  have hv:v ∉ T0.vis:=fun q => by
   rcases (h0.part v).1 q with q | q
   ·rw [hs] at q;cases q
   ·obtain ⟨x,hx,e⟩:=List.mem_map.1 q
    exact h.inv.dis v a (List.mem_map.2 ⟨x,h.inn x hx,e⟩)
  have hv2:=(h.inv.part v).2 (.inl a)
  rw [hM] at hv2
  rcases List.mem_append.1 hv2 with q | q
  ·exact hv q
  ·have h9:=(ixN_in q).1
   rw [hM,ixN_not hv,vis_len] at b
   omega
theorem TInv.nil (G:Gr):TInv G ⟨[],[],[],[]⟩ :=
 ⟨List.nodup_nil,List.Sublist.refl _,fun u => ⟨fun h => (by cases h),fun h => (by rcases h with h | h <;> cases h)⟩,fun u h => (by cases h),fun u h => (by cases h),List.nodup_nil,fun u h => (by cases h),fun u i v j h => (by cases h),fun u i v j h => (by cases h),fun x h => (by cases h),fun j P h => (by simp at h),Nat.le_refl _,fun u h => (by cases h)⟩
theorem tarj_fold {G:Gr} (hG:∀ u ∈ G.names,∀ t ∈ sucs G u,t ∈ G.names) (hB:G.names.length ≤ 100000000) :
    ∀ (l:List ByteArray) (T:TS),(∀ s ∈ l,s ∈ G.names)→TInv G T→T.stk = []→∃ T',l.foldl (stepJ G (G.names.length + 1)) (some T) = some T'∧TInv G T'∧T'.stk = []∧(∀ x ∈ T.inn,x ∈ T'.inn)∧∀ s ∈ l,s ∈ T'.dn
 | [],T,_,h,hs => ⟨T,rfl,h,hs,fun x hx => hx,fun s hs => (by cases hs)⟩
 | s :: l,T,hl,h,hs => by
  rw [List.foldl_cons]
  have hsn:=hl s List.mem_cons_self
  have hl':∀ x ∈ l,x ∈ G.names:=fun x hx => hl x (List.mem_cons_of_mem _ hx)
  have hgo:∀ T1,stepJ G (G.names.length + 1) (some T) s = some T1→TInv G T1→T1.stk = []→(∀ x ∈ T.inn,x ∈ T1.inn)→s ∈ T1.dn→∃ T',l.foldl (stepJ G (G.names.length + 1)) (stepJ G (G.names.length + 1) (some T) s) = some T'∧TInv G T'∧T'.stk = []∧(∀ x ∈ T.inn,x ∈ T'.inn)∧∀ x ∈ s :: l,x ∈ T'.dn:=fun T1 e h1 h2 h3 h4 => by
   rw [e]
   obtain ⟨T',a,b,c,d,f⟩:=tarj_fold hG hB l T1 hl' h1 h2
   refine ⟨T',a,b,c,fun x hx => d x (h3 x hx),fun x hx => ?_⟩
   rcases List.mem_cons.1 hx with e | hx
   ·subst e
    obtain ⟨y,hy,e⟩:=List.mem_map.1 h4
    exact List.mem_map.2 ⟨y,d y hy,e⟩
   ·exact f x hx
  cases hi:lkN T.inn s with
  | some q => exact hgo T (by unfold stepJ;simp only [hi]) h hs (fun x hx => hx) (List.mem_map.2 ⟨_,(lk_iff h.ndI).1 hi,rfl⟩)
  | none =>
   have hd:s ∉ T.dn:=lk_none_iff.1 hi
   have hv:s ∉ T.vis:=fun q => by
    rcases (h.part s).1 q with q | q
    ·rw [hs] at q;cases q
    ·exact hd q
   obtain ⟨T1,k,a,b⟩:=visit_ok hG hB (G.names.length + 1) T s h hv hsn (by omega)
   obtain ⟨c,d⟩:=b.empty h hs
   exact hgo T1 (by unfold stepJ;simp only [hi,a];rfl) b.inv c b.inn d
structure TarOk (G:Gr) (T:TS):Prop where
 inv:TInv G T
 stk:T.stk = []
 all:∀ s,s ∈ G.names↔s ∈ T.dn
theorem tarj_ok {G:Gr} (hG:∀ u ∈ G.names,∀ t ∈ sucs G u,t ∈ G.names) (hB:G.names.length ≤ 100000000):∃ T,tarjT G (G.names.length + 1) = some T∧TarOk G T:=by
 obtain ⟨T,a,b,c,_,d⟩:=tarj_fold hG hB G.sorted ⟨[],[],[],[]⟩ (fun s hs => ((sortU_spec totS _).2 s).1 hs) (TInv.nil G) rfl
 exact ⟨T,a,b,c,fun s => ⟨fun q => d s (((sortU_spec totS _).2 s).2 q),fun q => b.nm s ((b.part s).2 (.inr q))⟩⟩
section
variable {G:Gr} {T:TS}
theorem TarOk.at (h:TarOk G T) {s:ByteArray} (hs:s ∈ G.names):(s,lk0 T.inn s) ∈ T.inn:=by
 obtain ⟨⟨a,n⟩,hx,e⟩:=List.mem_map.1 ((h.all s).1 hs)
 simp only at e
 subst e
 unfold lk0
 rw [(lk_iff h.inv.ndI).2 hx]
 exact hx
theorem TarOk.same (h:TarOk G T) {s t:ByteArray} (hs:s ∈ G.names) (ht:t ∈ G.names):lk0 T.inn s = lk0 T.inn t↔Rch G s t∧Rch G t s:=h.inv.cmp _ _ _ _ (h.at hs) (h.at ht)
theorem TarOk.down (h:TarOk G T) {s t:ByteArray} (hs:s ∈ G.names) (ht:t ∈ G.names) (he:t ∈ sucs G s):lk0 T.inn t ≤ lk0 T.inn s:=h.inv.ord _ _ _ _ (h.at hs) he (h.at ht)
end
structure GOk (G:Gr) (E:List (ByteArray × ByteArray)) (N:List ByteArray):Prop where
 nd:G.names.Nodup
 nm:∀ s,s ∈ G.names↔s ∈ N
 su:∀ s t,t ∈ sucs G s↔(s,t) ∈ E
 en:∀ x ∈ E,x.1 ∈ N∧x.2 ∈ N
theorem sucs_pushG (G:Gr) (s t x:ByteArray):sucs (pushG G s t) x = if x = s∧s ∈ G.names then sucs G x ++ [t] else sucs G x:=by
 have hf:∀ G:Gr,(pushG G s t).find? (fun y => decide (y.1 = x)) = (G.find? fun y => decide (y.1 = x)).map fun y => if y.1 = s then (y.1,y.2 ++ [t]) else y:=fun G => by
  unfold pushG
  rw [List.find?_map]
  congr 1
  congr 1
  funext y
  simp only [Function.comp]
  split <;> rfl
 unfold sucs
 rw [hf]
 cases hq:G.find? fun y => decide (y.1 = x) with
 | none =>
  have:¬ (x = s∧s ∈ G.names):=by
   rintro ⟨rfl,h⟩
   obtain ⟨y,hy,e⟩:=List.mem_map.1 h
   have:=List.find?_eq_none.1 hq y hy
   simp [e] at this
  rw [if_neg this]
  rfl
 | some y =>
  have e:y.1 = x:=by simpa using List.find?_some hq
  have hy:x ∈ G.names:=List.mem_map.2 ⟨y,List.mem_of_find?_eq_some hq,e⟩
  by_cases hx:x = s
  ·rw [if_pos ⟨hx,hx ▸ hy⟩]
   simp [e,hx]
  ·rw [if_neg (fun q => hx q.1)]
   have:¬ y.1 = s:=fun q => hx (e.symm.trans q)
   simp [this]
theorem GOk.add {G:Gr} {E:List (ByteArray × ByteArray)} {N:List ByteArray} (h:GOk G E N) (s:ByteArray):GOk (addG G s) E (N ++ [s]):=by
 have hnm:∀ x,x ∈ (addG G s).names↔x ∈ N ++ [s]:=fun x => by
  rw [List.mem_append,List.mem_singleton,← h.nm]
  unfold addG
  split
  ·rename_i hs
   exact ⟨.inl,fun q => q.elim (fun q => q) fun q => by rw [q];exact hs⟩
  ·unfold Gr.names
   rw [List.map_append,List.mem_append]
   simp
 refine ⟨?_,hnm,fun x t => by rw [sucs_add h.nd,h.su],fun x hx => ⟨List.mem_append_left _ (h.en x hx).1,List.mem_append_left _ (h.en x hx).2⟩⟩
 unfold addG
 split
 ·exact h.nd
 ·rename_i hs
  unfold Gr.names
  rw [List.map_append,List.nodup_append]
  exact ⟨h.nd,by simp,fun a ha b hb e => hs (by simp only [List.map_cons,List.map_nil,List.mem_singleton] at hb;rw [← hb,← e];exact ha)⟩
theorem GOk.step {G:Gr} {E:List (ByteArray × ByteArray)} {N:List ByteArray} (h:GOk G E N) {p:ByteArray} (hp:p ∈ N) (l:Lt):GOk (stepG p G l) (E ++ [(p,l.p)]) (N ++ [l.p]):=by
 have h1:GOk (pushG G p l.p) (E ++ [(p,l.p)]) (N ++ [l.p])→GOk (stepG p G l) (E ++ [(p,l.p)]) (N ++ [l.p]):=fun g => by
  have g2:=g.add l.p
  refine ⟨g2.nd,fun x => ?_,g2.su,g.en⟩
  show x ∈ (addG (pushG G p l.p) l.p).names↔_
  rw [g2.nm]
  simp
 have hpn:p ∈ G.names:=(h.nm p).2 hp
 -- the names of the pushed graph are G's
 have hn:=pushG_names G p l.p
 have g2:GOk (pushG G p l.p) (E ++ [(p,l.p)]) N→True:=fun _ => trivial
 have hsu:∀ s t,t ∈ sucs (pushG G p l.p) s↔(s,t) ∈ E ++ [(p,l.p)]:=fun s t => by
  rw [sucs_pushG,List.mem_append,List.mem_singleton]
  by_cases e:s = p
  ·subst e
   rw [if_pos ⟨rfl,hpn⟩,List.mem_append,List.mem_singleton,h.su]
   constructor
   ·rintro (q | q)
    ·exact .inl q
    ·exact .inr (by rw [q])
   ·rintro (q | q)
    ·exact .inl q
    ·injection q with _ q;exact .inr q
  ·rw [if_neg (fun q => e q.1),h.su]
   constructor
   ·exact .inl
   ·rintro (q | q)
    ·exact q
    ·injection q with q _;exact absurd q e
 have hnd:(pushG G p l.p).names.Nodup:=by rw [hn];exact h.nd
 refine ⟨?_,fun x => ?_,fun s t => ?_,fun x hx => ?_⟩
 ·show (addG (pushG G p l.p) l.p).names.Nodup
  unfold addG
  split
  ·exact hnd
  ·rename_i hs
   unfold Gr.names at hnd hs ⊢
   rw [List.map_append,List.nodup_append]
   refine ⟨hnd,by simp,fun a ha b hb e => ?_⟩
   simp only [List.map_cons,List.map_nil,List.mem_singleton] at hb
   have hal:a = l.p:=e.trans hb
   subst hal
   exact hs ha
 ·show x ∈ (addG (pushG G p l.p) l.p).names↔_
  rw [List.mem_append,List.mem_singleton,← h.nm,← hn]
  unfold addG
  split
  ·rename_i hs
   exact ⟨.inl,fun q => q.elim (fun q => q) fun q => by rw [q];exact hs⟩
  ·unfold Gr.names
   rw [List.map_append,List.mem_append]
   simp
 ·show t ∈ sucs (addG (pushG G p l.p) l.p) s↔_
  rw [sucs_add hnd,hsu]
 ·rcases List.mem_append.1 hx with q | q
  ·exact ⟨List.mem_append_left _ (h.en x q).1,List.mem_append_left _ (h.en x q).2⟩
  ·rw [List.mem_singleton] at q
   subst q
   exact ⟨List.mem_append_left _ hp,List.mem_append_right _ (by simp)⟩
def Ru.nE (r:Ru):List (ByteArray × ByteArray):=(r.b.filter Lt.isA).map fun l => (r.p,l.p)
def Ru.nN (r:Ru):List ByteArray:=r.p :: (r.b.filter Lt.isA).map fun l => l.p
theorem GOk.fold {p:ByteArray}:∀ (ls:List Lt) {G:Gr} {E:List (ByteArray × ByteArray)} {N:List ByteArray},GOk G E N→p ∈ N→GOk (ls.foldl (stepG p) G) (E ++ ls.map fun l => (p,l.p)) (N ++ ls.map fun l => l.p)
 | [],G,E,N,h,_ => by simpa using h
 | l :: ls,G,E,N,h,hp => by
  have:=GOk.fold ls (h.step hp l) (List.mem_append_left _ hp)
  simpa using this
theorem GOk.rule {G:Gr} {E:List (ByteArray × ByteArray)} {N:List ByteArray} (h:GOk G E N) (r:Ru):GOk (drawR G r) (E ++ r.nE) (N ++ r.nN):=by
 have:=GOk.fold (p:=r.p) (r.b.filter Lt.isA) (h.add r.p) (List.mem_append_right _ (by simp))
 unfold drawR Ru.nE Ru.nN
 simpa using this
theorem GOk.rules:∀ (rs:List Ru) {G:Gr} {E:List (ByteArray × ByteArray)} {N:List ByteArray},GOk G E N→GOk (rs.foldl drawR G) (E ++ rs.flatMap Ru.nE) (N ++ rs.flatMap Ru.nN)
 | [],G,E,N,h => by simpa using h
 | r :: rs,G,E,N,h => by
  have:=GOk.rules rs (h.rule r)
  simpa using this
theorem draw_ok (rs:List Ru):GOk (drawP rs) (rs.flatMap Ru.nE) (rs.flatMap Ru.nN):=by
 have h0:GOk [] [] []:=⟨List.nodup_nil,fun s => Iff.rfl,fun s t => ⟨fun h => (by cases h),fun h => (by cases h)⟩,fun x hx => (by cases hx)⟩
 have:=GOk.rules rs h0
 unfold drawP
 simpa using this
theorem edges_pairs:∀ (rs:List Ru) (n:Nat),((rs.zipIdx n).flatMap fun x => x.1.edges (x.2:Nat)).map (fun e => (e.f,e.t)) = rs.flatMap Ru.nE
 | [],n => rfl
 | r :: rs,n => by
  rw [List.zipIdx_cons,List.flatMap_cons,List.flatMap_cons,List.map_append,edges_pairs rs (n + 1)]
  congr 1
  unfold Ru.edges Ru.nE
  rw [List.map_map]
  rfl
theorem edge_suc {rs:List Ru} {s t:ByteArray}:t ∈ sucs (drawP rs) s↔∃ e ∈ edgesP rs,e.f = s∧e.t = t:=by
 rw [(draw_ok rs).su,← edges_pairs rs 0]
 constructor
 ·intro h
  obtain ⟨e,he,q⟩:=List.mem_map.1 h
  injection q with q1 q2
  exact ⟨e,he,q1,q2⟩
 ·rintro ⟨e,he,rfl,rfl⟩
  exact List.mem_map.2 ⟨e,he,rfl⟩
theorem draw_closed (rs:List Ru):∀ u ∈ (drawP rs).names,∀ t ∈ sucs (drawP rs) u,t ∈ (drawP rs).names:=fun u _ t ht =>
 ((draw_ok rs).nm t).2 ((draw_ok rs).en _ (((draw_ok rs).su u t).1 ht)).2
theorem edge_names {rs:List Ru} {e:Ed} (he:e ∈ edgesP rs):e.f ∈ (drawP rs).names∧e.t ∈ (drawP rs).names:=by
 have h:(e.f,e.t) ∈ rs.flatMap Ru.nE:=by rw [← edges_pairs rs 0];exact List.mem_map.2 ⟨e,he,rfl⟩
 have:=(draw_ok rs).en _ h
 exact ⟨((draw_ok rs).nm _).2 this.1,((draw_ok rs).nm _).2 this.2⟩
theorem names_le:∀ rs:List Ru,(rs.flatMap Ru.nN).length ≤ (rs.map Ru.parts).sum
 | [] => by simp
 | r :: rs => by
  rw [List.flatMap_cons,List.length_append,List.map_cons,List.sum_cons]
  have h1:=names_le rs
  have h2:r.nN.length ≤ r.parts:=by
   unfold Ru.nN
   rw [List.length_cons,List.length_map,Ru.parts_eq]
   have:=List.length_filter_le Lt.isA r.b
   omega
  omega
theorem draw_len {rs:List Ru} (h:Small rs):(drawP rs).names.length ≤ 10000000:=by
 have:=nodup_le (draw_ok rs).nd fun x hx => ((draw_ok rs).nm x).1 hx
 have h2:=names_le rs
 unfold Small at h
 omega
def Ready (L:Nat→List Nat) (dn:List Nat) (j:Nat):Prop:=∀ k ∈ L j,k ∈ dn
def left (L:Nat→List Nat) (dn:List Nat) (j:Nat):Nat:=((L j).filter fun k => decide (k ∉ dn)).length
structure WtOk (n:Nat) (L:Nat→List Nat) (dn:List Nat) (wt:Nat→Int):Prop where
 laid:∀ j,j < n→j ∈ dn→wt j < 0∧Ready L dn j
 wait:∀ j,j < n→j ∉ dn→wt j = (left L dn j:Nat)
def Ed.up (e:Ed):Nat:=if e.strict = true then 1 else 0
def Holds (es:List Ed) (v:ByteArray→Nat):Prop:=∀ e ∈ es,v e.t + e.up ≤ v e.f
theorem wants_up (e:Ed) (n:Nums):e.wants n = lk0 n e.t + e.up:=by
 unfold Ed.wants Ed.up
 split <;> omega
theorem lkN_put {l:Nums} {s u:ByteArray} {k:Nat}:lkN (putN l s k) u = if u = s∧(lkN l s).isSome = true then some k else lkN l u:=by
 induction l with
 | nil => unfold putN lkN;simp
 | cons x l ih =>
  have e1:putN (x :: l) s k = (if x.1 = s then (x.1,k) else x) :: putN l s k:=rfl
  rw [e1]
  have hc:∀ (y:ByteArray × Nat) (m:Nums) (z:ByteArray),lkN (y :: m) z = if y.1 = z then some y.2 else lkN m z:=fun y m z => by
   unfold lkN
   by_cases e:y.1 = z
   ·rw [if_pos e,List.find?_cons_of_pos (by simpa using e)];rfl
   ·rw [if_neg e,List.find?_cons_of_neg (by simpa using e)]
  rw [hc,hc,hc,ih]
  by_cases e2:x.1 = s
  ·rw [if_pos e2,if_pos e2]
   dsimp only
   by_cases e3:u = s
   ·rw [if_pos (e2.trans e3.symm),if_pos ⟨e3,rfl⟩]
   ·have hxu:¬ x.1 = u:=fun q => e3 (q.symm.trans e2)
    rw [if_neg hxu,if_neg (fun q => e3 q.1),if_neg (fun q => e3 q.1),if_neg hxu]
  ·rw [if_neg e2,if_neg e2]
   by_cases e3:x.1 = u
   ·rw [if_pos e3,if_pos e3,if_neg (fun q => e2 (e3.trans q.1))]
   ·rw [if_neg e3,if_neg e3]
theorem lk0_set (l:Nums) (s u:ByteArray) (k:Nat):lk0 (setN l s k) u = if u = s then k else lk0 l u:=by
 unfold setN
 cases hq:lkN l s with
 | none =>
  dsimp only
  unfold lk0 lkN
  rw [List.find?_append]
  by_cases e:u = s
  ·rw [if_pos e]
   have hf:(l.find? fun x => decide (x.1 = u)) = none:=by
    rw [List.find?_eq_none]
    intro x hx
    rw [decide_eq_true_eq,e]
    exact lkN_none hq x hx
   rw [hf]
   simp [e]
  ·rw [if_neg e]
   have:([(s,k)].find? fun x => decide (x.1 = u)) = none:=by
    rw [List.find?_eq_none]
    intro x hx
    rw [List.mem_singleton] at hx
    subst hx
    rw [decide_eq_true_eq]
    exact fun q => e q.symm
   rw [this]
   cases l.find? fun x => decide (x.1 = u) <;> rfl
 | some q =>
  dsimp only
  unfold lk0
  rw [lkN_put]
  by_cases e:u = s
  ·rw [if_pos ⟨e,by rw [hq];rfl⟩,if_pos e];rfl
  ·rw [if_neg (fun q => e q.1),if_neg e]
def Below (v:ByteArray→Nat) (n:Nums):Prop:=(∀ x ∈ n,x.2 ≤ v x.1)∧∀ s,lk0 n s ≤ v s
theorem stepR_below {es:List Ed} {v:ByteArray→Nat} (hv:Holds es v) {st:Nums × Bool} {e:Ed} (he:e ∈ es) (h:Below v st.1):Below v (stepR st e).1:=by
 unfold stepR
 split
 ·have hw:e.wants st.1 ≤ v e.f:=by
    rw [wants_up]
    have:=hv e he
    have:=h.2 e.t
    omega
  refine ⟨fun x hx => ?_,fun s => ?_⟩
  ·rcases setN_mem x hx with h1 | rfl
   ·exact h.1 x h1
   ·exact hw
  ·rw [lk0_set]
   split
   ·rename_i e1;rw [e1];exact hw
   ·exact h.2 s
 ·exact h
def meas (N:List ByteArray) (v:ByteArray→Nat) (n:Nums):Nat:=(N.map fun s => v s - lk0 n s).sum
theorem sum_le {α:Type} {f g:α→Nat}:∀ {l:List α},(∀ x ∈ l,f x ≤ g x)→(l.map f).sum ≤ (l.map g).sum
 | [],_ => Nat.le_refl _
 | x :: l,h => by
  rw [List.map_cons,List.map_cons,List.sum_cons,List.sum_cons]
  have:=h x List.mem_cons_self
  have:=sum_le (l:=l) fun y hy => h y (List.mem_cons_of_mem _ hy)
  omega
theorem sum_lt {α:Type} {f g:α→Nat}:∀ {l:List α},(∀ x ∈ l,f x ≤ g x)→(∃ x ∈ l,f x < g x)→(l.map f).sum < (l.map g).sum
 | [],_,h => by obtain ⟨x,hx,_⟩:=h;cases hx
 | x :: l,h,h2 => by
  rw [List.map_cons,List.map_cons,List.sum_cons,List.sum_cons]
  have h3:=h x List.mem_cons_self
  have h4:=sum_le (l:=l) fun y hy => h y (List.mem_cons_of_mem _ hy)
  obtain ⟨y,hy,hlt⟩:=h2
  rcases List.mem_cons.1 hy with e | hy
  ·subst e;omega
  ·have:=sum_lt (l:=l) (fun z hz => h z (List.mem_cons_of_mem _ hz)) ⟨y,hy,hlt⟩
   omega
theorem stepR_meas {N:List ByteArray} {es:List Ed} {v:ByteArray→Nat} (hv:Holds es v) {st:Nums × Bool} {e:Ed} (he:e ∈ es) (hN:e.f ∈ N) (h:Below v st.1) :
    meas N v (stepR st e).1 ≤ meas N v st.1∧((stepR st e).2 = true→st.2 = false→meas N v (stepR st e).1 < meas N v st.1)∧(st.2 = true→(stepR st e).2 = true):=by
 have hb:=stepR_below hv he h
 unfold stepR at hb ⊢
 split
 ·rename_i hlt
  rw [if_pos hlt] at hb
  have hpt:∀ s,lk0 st.1 s ≤ lk0 (setN st.1 e.f (e.wants st.1)) s:=fun s => by
   rw [lk0_set]
   split
   ·rename_i e1;rw [e1];omega
   ·exact Nat.le_refl _
  refine ⟨sum_le fun s _ => by have:=hpt s;dsimp only;omega,fun _ _ => sum_lt (fun s _ => by have:=hpt s;dsimp only;omega) ⟨e.f,hN,?_⟩,fun _ => rfl⟩
  have h1:=hb.2 e.f
  rw [lk0_set,if_pos rfl] at h1 ⊢
  omega
 ·rename_i hlt
  refine ⟨Nat.le_refl _,fun h1 h2 => ?_,fun h => h⟩
  rw [h2] at h1
  cases h1
theorem round_meas {N:List ByteArray} {es:List Ed} {v:ByteArray→Nat} (hv:Holds es v) (hN:∀ e ∈ es,e.f ∈ N):∀ (l:List Ed) (st:Nums × Bool),(∀ e ∈ l,e ∈ es)→Below v st.1 →
    Below v (l.foldl stepR st).1∧meas N v (l.foldl stepR st).1 ≤ meas N v st.1∧((l.foldl stepR st).2 = true→st.2 = false→meas N v (l.foldl stepR st).1 < meas N v st.1)∧(st.2 = true→(l.foldl stepR st).2 = true)
 | [],st,_,h => ⟨h,Nat.le_refl _,fun h1 h2 => (by rw [List.foldl_nil,h2] at h1;cases h1),fun h => h⟩
 | e :: l,st,hl,h => by
  have he:=hl e List.mem_cons_self
  obtain ⟨a1,a2,a3⟩:=stepR_meas (N:=N) hv he (hN e he) h
  obtain ⟨b1,b2,b3,b4⟩:=round_meas hv hN l (stepR st e) (fun x hx => hl x (List.mem_cons_of_mem _ hx)) (stepR_below hv he h)
  rw [List.foldl_cons]
  refine ⟨b1,Nat.le_trans b2 a1,fun h1 h2 => ?_,fun h => b4 (a3 h)⟩
  cases hs:(stepR st e).2 with
  | true => exact Nat.lt_of_le_of_lt b2 (a2 hs h2)
  | false => exact Nat.lt_of_lt_of_le (b3 h1 hs) a1
theorem raise_some {N:List ByteArray} {es:List Ed} {v:ByteArray→Nat} (hv:Holds es v) (hN:∀ e ∈ es,e.f ∈ N) (hB:∀ s,v s ≤ 100000000):∀ (f:Nat) (n:Nums),Below v n→meas N v n < f→∃ nf,raiseR es f n = some nf
 | 0,n,_,h => by omega
 | f + 1,n,h,hm => by
  obtain ⟨b1,b2,b3,_⟩:=round_meas hv hN es (n,false) (fun e he => he) h
  unfold raiseR
  have hall:(n.all fun x => decide (x.2 ≤ 100000000)) = true:=by
   rw [List.all_eq_true]
   intro x hx
   have:=h.1 x hx
   have:=hB x.1
   rw [decide_eq_true_eq]
   omega
  rw [if_pos hall]
  cases hr:(roundR es n).2 with
  | false => exact ⟨_,by rw [if_neg (by decide)]⟩
  | true =>
   rw [if_pos rfl]
   have hlt:=b3 hr rfl
   exact raise_some hv hN hB f _ b1 (by
    have:meas N v (roundR es n).1 < meas N v n:=hlt
    omega)
theorem stepR_still {st:Nums × Bool} {e:Ed} (h:(stepR st e).2 = false):stepR st e = st∧lk0 st.1 e.t + e.up ≤ lk0 st.1 e.f:=by
 unfold stepR at h ⊢
 split
 ·rename_i hlt
  rw [if_pos hlt] at h
  cases h
 ·rename_i hlt
  rw [wants_up] at hlt
  exact ⟨rfl,by omega⟩
theorem stepR_true {st:Nums × Bool} {e:Ed} (h:st.2 = true):(stepR st e).2 = true:=by
 unfold stepR
 split
 ·rfl
 ·exact h
theorem fold_true:∀ (l:List Ed) {st:Nums × Bool},st.2 = true→(l.foldl stepR st).2 = true
 | [],st,h => h
 | e :: l,st,h => by rw [List.foldl_cons];exact fold_true l (stepR_true h)
theorem round_still:∀ (l:List Ed) (st:Nums × Bool),(l.foldl stepR st).2 = false→l.foldl stepR st = st∧∀ e ∈ l,lk0 st.1 e.t + e.up ≤ lk0 st.1 e.f
 | [],st,_ => ⟨rfl,fun e he => by cases he⟩
 | e :: l,st,h => by
  rw [List.foldl_cons] at h ⊢
  cases hs:(stepR st e).2 with
  | true => rw [fold_true l hs] at h;cases h
  | false =>
   obtain ⟨a,b⟩:=stepR_still hs
   rw [a] at h ⊢
   obtain ⟨c,d⟩:=round_still l st h
   refine ⟨c,fun x hx => ?_⟩
   rcases List.mem_cons.1 hx with q | hx
   ·rw [q];exact b
   ·exact d x hx
theorem raise_least {es:List Ed}:∀ (f:Nat) (n nf:Nums),raiseR es f n = some nf→Holds es (lk0 nf)∧∀ v,Holds es v→Below v n→∀ s,lk0 nf s ≤ v s
 | 0,n,nf,h => by cases h
 | f + 1,n,nf,h => by
  unfold raiseR at h
  split at h
  ·cases hr:(roundR es n).2 with
   | false =>
    rw [hr,if_neg (by decide)] at h
    obtain ⟨a,b⟩:=round_still es (n,false) hr
    have e1:(roundR es n).1 = n:=by unfold roundR;rw [a]
    have h9:=Option.some.inj h
    rw [e1] at h9
    subst h9
    exact ⟨fun e he => b e he,fun v hv hb s => hb.2 s⟩
   | true =>
    rw [hr,if_pos rfl] at h
    obtain ⟨a,b⟩:=raise_least f _ nf h
    refine ⟨a,fun v hv hb => b v hv ?_⟩
    exact (round_meas (N:=es.map (·.f)) hv (fun e he => List.mem_map_of_mem he) es (n,false) (fun e he => he) hb).1
  ·cases h
theorem below_nil (v:ByteArray→Nat):Below v []:=⟨fun x hx => (by cases hx),fun s => Nat.zero_le _⟩
section
variable {G:Gr} {T:TS}
theorem TarOk.sound (h:TarOk G T) (hB:G.names.length ≤ 100000000):SoundT T:=by
 refine ⟨fun p hp => ?_,h.inv.num,?_⟩
 ·obtain ⟨j,hj⟩:=List.getElem?_of_mem hp
  exact (h.inv.outp j p hj).1
 ·have h1:=h.inv.olen
  have h2:=h.inv.dn_le
  have h3:T.dn.length = T.inn.length:=List.length_map _
  omega
end
theorem tarj_rules {rs:List Ru} (h:Small rs):∃ T,tarjT (drawP rs) ((drawP rs).names.length + 1) = some T∧TarOk (drawP rs) T :=
 tarj_ok (draw_closed rs) (by have:=draw_len h;omega)
theorem levels_rules {rs:List Ru} (h:Small rs) {T:TS} (hT:TarOk (drawP rs) T) (hb:blameE T.inn (edgesP rs) = none):∃ f nf,raiseR (edgesP rs) f [] = some nf∧Holds (edgesP rs) (lk0 nf)∧∀ v,Holds (edgesP rs) v→∀ s,lk0 nf s ≤ v s:=by
 have hv:Holds (edgesP rs) (lk0 T.inn):=fun e he => by
  have hn:=edge_names he
  have hd:=hT.down hn.1 hn.2 (edge_suc.2 ⟨e,he,rfl,rfl⟩)
  unfold Ed.up
  split
  ·rename_i hs
   have:=List.find?_eq_none.1 hb e he
   rw [hs,Bool.true_and,decide_eq_true_eq] at this
   omega
  ·omega
 have hB:∀ s,lk0 T.inn s ≤ 100000000:=fun s => by
  have h1:=(hT.sound (by have:=draw_len h;omega)).len
  unfold lk0 lkN
  cases hq:T.inn.find? fun x => decide (x.1 = s) with
  | none => exact Nat.zero_le _
  | some x =>
   have:=hT.inv.num x (List.mem_of_find?_eq_some hq)
   show x.2 ≤ _
   omega
 obtain ⟨nf,hf⟩:=raise_some (N:=(edgesP rs).map (·.f)) hv (fun e he => List.mem_map_of_mem he) hB (meas ((edgesP rs).map (·.f)) (lk0 T.inn) [] + 1) [] (below_nil _) (by omega)
 obtain ⟨a,b⟩:=raise_least _ _ _ hf
 exact ⟨_,nf,hf,a,fun v hv s => b v hv (below_nil v) s⟩
def Cls (N:ByteArray→Prop) (R:ByteArray→ByteArray→Prop) (p:List ByteArray):Prop :=
 p ≠ []∧Up cmpS p∧(∀ u ∈ p,N u)∧∀ u ∈ p,∀ v,v ∈ p↔R u v∧R v u
def hdP (p:List ByteArray):ByteArray:=p.headD ⟨#[]⟩
section
variable {G:Gr} {T:TS}
end
def Ed.tri (e:Ed):ByteArray × ByteArray × Int:=(e.f,e.t,e.k)
def Ru.tris (r:Ru):List (ByteArray × ByteArray × Int):=(r.b.filter Lt.isA).map fun l => (r.p,l.p,if l.k = 2 then 2 else r.kind)
theorem edges_tris:∀ (rs:List Ru) (n:Nat),((rs.zipIdx n).flatMap fun x => x.1.edges (x.2:Nat)).map Ed.tri = rs.flatMap Ru.tris
 | [],n => rfl
 | r :: rs,n => by
  rw [List.zipIdx_cons,List.flatMap_cons,List.flatMap_cons,List.map_append,edges_tris rs (n + 1)]
  congr 1
  unfold Ru.edges Ru.tris
  rw [List.map_map]
  rfl
theorem edge_tri {rs:List Ru} {x:ByteArray × ByteArray × Int}:(∃ e ∈ edgesP rs,e.tri = x)↔∃ r ∈ rs,x ∈ r.tris:=by
 have h:(edgesP rs).map Ed.tri = rs.flatMap Ru.tris:=edges_tris rs 0
 rw [← List.mem_flatMap,← h,List.mem_map]
section
variable {rs rs':List Ru}
theorem edge_move (hm:∀ r ∈ rs,r ∈ rs') {e:Ed} (he:e ∈ edgesP rs):∃ e' ∈ edgesP rs',e'.f = e.f∧e'.t = e.t∧e'.k = e.k:=by
 obtain ⟨r,hr,hx⟩:=edge_tri.1 ⟨e,he,rfl⟩
 obtain ⟨e',he',hq⟩:=edge_tri.2 ⟨r,hm r hr,hx⟩
 unfold Ed.tri at hq
 injection hq with q1 q2
 injection q2 with q2 q3
 exact ⟨e',he',q1,q2,q3⟩
theorem names_move (hm:∀ r ∈ rs,r ∈ rs') {s:ByteArray} (hs:s ∈ (drawP rs).names):s ∈ (drawP rs').names:=by
 rw [(draw_ok _).nm] at hs ⊢
 obtain ⟨r,hr,hx⟩:=List.mem_flatMap.1 hs
 exact List.mem_flatMap.2 ⟨r,hm r hr,hx⟩
theorem strict_k {e e':Ed} (h:e'.k = e.k):e'.strict = e.strict:=by unfold Ed.strict;rw [h]
theorem up_k {e e':Ed} (h:e'.k = e.k):e'.up = e.up:=by unfold Ed.up;rw [strict_k h]
theorem holds_move (hm:∀ r ∈ rs,r ∈ rs') {v:ByteArray→Nat} (h:Holds (edgesP rs') v):Holds (edgesP rs) v:=fun e he => by
 obtain ⟨e',he',q1,q2,q3⟩:=edge_move hm he
 have:=h e' he'
 rwa [q1,q2,up_k q3] at this
def RoundE (rs:List Ru) (e:Ed):Prop:=e.strict = true∧Rch (drawP rs) e.t e.f
theorem sorted_move (hm:∀ r,r ∈ rs↔r ∈ rs'):(drawP rs).sorted = (drawP rs').sorted :=
 sortU_congr totS fun s => ⟨names_move fun r => (hm r).1,names_move fun r => (hm r).2⟩
def LeastL (es:List Ed) (nf:ByteArray→Nat):Prop:=Holds es nf∧∀ v,Holds es v→∀ s,nf s ≤ v s
theorem least_move (hm:∀ r,r ∈ rs↔r ∈ rs') {nf nf':ByteArray→Nat} (h:LeastL (edgesP rs) nf) (h':LeastL (edgesP rs') nf') (s:ByteArray):nf s = nf' s :=
 Nat.le_antisymm (h.2 nf' (holds_move (fun r => (hm r).1) h'.1) s) (h'.2 nf (holds_move (fun r => (hm r).2) h.1) s)
theorem levels_move (hm:∀ r,r ∈ rs↔r ∈ rs') {nf nf':ByteArray→Nat} (h:LeastL (edgesP rs) nf) (h':LeastL (edgesP rs') nf'):(drawP rs).sorted.map (fun s => (s,nf s)) = (drawP rs').sorted.map (fun s => (s,nf' s)):=by
 rw [sorted_move hm]
 exact List.map_congr_left fun s _ => by rw [least_move hm h h' s]
end
theorem round_iff {rs:List Ru} {T:TS} (hT:TarOk (drawP rs) T) {e:Ed} (he:e ∈ edgesP rs):(e.strict && decide (lk0 T.inn e.f = lk0 T.inn e.t)) = true↔RoundE rs e:=by
 have hn:=edge_names he
 have hft:Rch (drawP rs) e.f e.t:=.one (edge_suc.2 ⟨e,he,rfl,rfl⟩)
 rw [Bool.and_eq_true,decide_eq_true_eq,hT.same hn.1 hn.2]
 unfold RoundE
 exact ⟨fun h => ⟨h.1,h.2.2⟩,fun h => ⟨h.1,hft,h.2⟩⟩
theorem find_split {α:Type} {p:α→Bool}:∀ {l:List α} {x:α},l.find? p = some x→∃ a b,l = a ++ x :: b∧p x = true∧∀ y ∈ a,p y = false
 | [],x,h => by cases h
 | y :: r,x,h => by
  rw [List.find?_cons] at h
  cases hy:p y with
  | true =>
   rw [hy] at h
   obtain rfl:y = x:=by simpa using h
   exact ⟨[],r,rfl,hy,fun z hz => by cases hz⟩
  | false =>
   rw [hy] at h
   obtain ⟨a,b,e,h1,h2⟩:=find_split h
   refine ⟨y :: a,b,by rw [e];rfl,h1,fun z hz => ?_⟩
   rcases List.mem_cons.1 hz with rfl | hz
   ·exact hy
   ·exact h2 z hz
end Go.Proofs.YtobabnpllokkaaaGreatDoor
namespace Go.Proofs.YtobabnpllokkaaaGreatDoor
open Go.RowKit Go.WideMaps Go.Maps
theorem levelsAll_any {M:Nat} (A:Option Addr) (c:Nat) (rs:List Ru) (w:World) (h:SlRep 3 M RRu w (.slice A rs.length c) rs) (hM:M ≤ 9223372036854775807) (hS:Small rs) :
    Calls Tryz.prog 74 #[.agg #[.slice A rs.length c]] w fun e w' =>
     ((∃ a x b,edgesP rs = a ++ x :: b∧RoundE rs x∧(∀ y ∈ a,¬ RoundE rs y)∧e = .returned (.tuple #[.slice none 0 0,.int .i64 x.r,.int .i64 x.errno])) ∨
      ((∀ y ∈ edgesP rs,¬ RoundE rs y)∧∃ nf v,LeastL (edgesP rs) nf∧e = .returned (.tuple #[v,.int .i64 0,.int .i64 0])∧OwnL 2 w.heap.size tLev RLv w' v ((drawP rs).sorted.map fun s => (s,nf s))))∧Fut w w':=by
 obtain ⟨T,hT,hO⟩:=tarj_rules hS
 have hl:(drawP rs).length ≤ 100000000:=by
  have h1:=draw_len hS
  have h2:(drawP rs).names.length = (drawP rs).length:=List.length_map _
  omega
 cases hb:blameE T.inn (edgesP rs) with
 | some x =>
  refine (levelsB_any A c rs w h hM hS _ T hT hl x hb).mono ?_
  rintro e w' ⟨he,hf⟩
  obtain ⟨a,b,e1,e2,e3⟩:=find_split hb
  have hin:∀ y ∈ a ++ x :: b,y ∈ edgesP rs:=fun y hy => by rw [e1];exact hy
  refine ⟨.inl ⟨a,x,b,e1,(round_iff hO (hin x (by simp))).1 e2,fun y hy hr => ?_,he⟩,hf⟩
  have h1:=(round_iff hO (hin y (by simp [hy]))).2 hr
  rw [e3 y hy] at h1
  cases h1
 | none =>
  obtain ⟨f,nf,h1,h2,h3⟩:=levels_rules hS hO hb
  refine (levelsG_any A c rs w h hM hS _ T hT hl hb nf f h1).mono ?_
  rintro e w' ⟨v,he,ho,hf⟩
  refine ⟨.inr ⟨fun y hy hr => ?_,lk0 nf,v,⟨h2,h3⟩,he,ho⟩,hf⟩
  have h4:=List.find?_eq_none.1 hb y hy
  exact h4 ((round_iff hO hy).2 hr)
theorem lv9_at {M:Nat} {w:World} {A:Option Addr} {n cap:Nat} {xs:List (ByteArray × Nat)} (h:SlRep 2 M RLv w (.slice A n cap) xs) {k:Nat} (hk:k < xs.length) :
    ∃ b off,A = some ⟨b,off,none⟩∧w.cell? ⟨b,off + k * 2,none⟩ = some (.string (xs[k]).1)∧w.cell? ⟨b,off + k * 2 + 1,none⟩ = some (.int .i32 ((xs[k]).2:Nat)):=by
 obtain ⟨A1,cap1,hv,_,_,h3⟩:=h
 obtain ⟨b,off,cs,hA,hl,hc,hr⟩:=h3 k _ (List.getElem?_eq_getElem hk)
 injection hv with hv _ _
 obtain rfl:cs = _:=hr
 exact ⟨b,off,hv.trans hA,hc 0 _ rfl,hc 1 _ rfl⟩
set_option maxHeartbeats 1000000 in
theorem sameLv_any {M M':Nat} (a b:Value) (xs:List (ByteArray × Nat)) (w:World) (ha:SlRep 2 M RLv w a xs) (hb:SlRep 2 M' RLv w b xs) (hM:M ≤ 9223372036854775807) :
    Calls Tryz.prog 19 #[a,b] w fun e w' => e = .returned (.bool true)∧Fut w w':=by
 have HA:=Lib.hid ha
 have HB:=Lib.hid hb
 obtain ⟨A,ca,rfl,hl1,hl2⟩:=ha.form
 obtain ⟨A',cb,rfl,_,_⟩:=hb.form
 have hxl:xs.length ≤ 9223372036854775807:=by omega
 clear ha hb hl1 hl2
 go_enter Tryz.func19,Tryz.ntmps19
 go_wp2_with fail
 go_loopw [5] (fun i wr => ∃ k:Nat,k ≤ xs.length∧i = .int .i64 k∧Hid (Fut w wr)) (fun i _ => xs.length - (intOf i).toNat)
 case atStart => exact ⟨0,Nat.zero_le _,rfl,Lib.hid (Fut.refl _)⟩
 case round =>
  obtain ⟨k,hk,rfl,hG⟩:=hrel
  by_cases hlt:k < xs.length
  ·obtain ⟨b1,o1,rfl,x0,x1⟩:=lv9_at (HA.out.fut RLv.stays hG.out) hlt
   obtain ⟨b2,o2,rfl,y0,y1⟩:=lv9_at (HB.out.fut RLv.stays hG.out) hlt
   generalize xs[k] = z at *
   have hltI:(k:Int) < xs.length:=by omega
   have e0:(0:Int) ≤ k∧(k:Int) < xs.length:=by omega
   go_wp2_with fail
   refine wp_graph 9 [.d,.d,.d,.d,.d,.d,.d,.d,.d] (by kernel_rfl) (by kernel_rfl) (by kernel_rfl) ?_
   simp only [takS,Exs]
   iterate 9 apply Exists.intro
   iterate 3
    apply Run.valG (wanted_none rfl _)
    ·intro w1 h1 hk
     go_simp;rfl
    simp only [actS]
   apply Run.valG (wanted_none rfl _)
   ·intro w1 h1 hk
    have q1:=h1.cell x0;have q2:=h1.cell y0;have q3:=h1.cell x1;have q4:=h1.cell y1
    have hcw:=fun b o => Below.cell (p:=⟨b,o,none⟩) h1
    go_simp;rfl
   simp only [actS]
   iterate 3
    apply Run.valG (wanted_none rfl _)
    ·intro w1 h1 hk
     go_simp;rfl
    simp only [actS]
   apply Run.valG (wanted_none rfl _)
   ·intro w1 h1 hk
    have q1:=h1.cell x0;have q2:=h1.cell y0;have q3:=h1.cell x1;have q4:=h1.cell y1
    have hcw:=fun b o => Below.cell (p:=⟨b,o,none⟩) h1
    go_simp;rfl
   simp only [actS]
   apply Run.valG (wanted_none rfl _)
   ·intro w1 h1 hk
    go_simp;rfl
   simp only [actS]
   apply Run.done
   intro w2 h2 hk
   clear hk
   have hGn:=Lib.hid (hG.out.trans ((Fut.drew _).trans h2))
   clear h2
   go_wp2
   go_roundw
   case rel => exact ⟨k + 1,by omega,by go_num,hGn⟩
   case measure => simp [intOf] <;> omega
  ·obtain rfl:k = xs.length:=by omega
   go_wp2
   go_ret
   exact ⟨rfl,hG.out⟩
set_option maxHeartbeats 1000000 in
theorem sameTx_any {M M':Nat} (a b:Value) (xs:List ByteArray) (w:World) (ha:SlRep 1 M RNm w a xs) (hb:SlRep 1 M' RNm w b xs) (hM:M ≤ 9223372036854775807) :
    Calls Tryz.prog 23 #[a,b] w fun e w' => e = .returned (.bool true)∧Fut w w':=by
 have HA:=Lib.hid ha
 have HB:=Lib.hid hb
 obtain ⟨A,ca,rfl,hl1,hl2⟩:=ha.form
 obtain ⟨A',cb,rfl,_,_⟩:=hb.form
 have hxl:xs.length ≤ 9223372036854775807:=by omega
 clear ha hb hl1 hl2
 go_enter Tryz.func23,Tryz.ntmps23
 go_wp2_with fail
 go_loopw [5] (fun i wr => ∃ k:Nat,k ≤ xs.length∧i = .int .i64 k∧Hid (Fut w wr)) (fun i _ => xs.length - (intOf i).toNat)
 case atStart => exact ⟨0,Nat.zero_le _,rfl,Lib.hid (Fut.refl _)⟩
 case round =>
  obtain ⟨k,hk,rfl,hG⟩:=hrel
  by_cases hlt:k < xs.length
  ·obtain ⟨b1,o1,rfl,x0⟩:=nm_at (HA.out.fut RNm.stays hG.out) hlt
   obtain ⟨b2,o2,rfl,y0⟩:=nm_at (HB.out.fut RNm.stays hG.out) hlt
   generalize xs[k] = z at *
   have hltI:(k:Int) < xs.length:=by omega
   have e0:(0:Int) ≤ k∧(k:Int) < xs.length:=by omega
   go_wp2_with fail
   refine wp_graph 9 [.d,.d,.d,.d,.d,.d,.d,.d,.d] (by kernel_rfl) (by kernel_rfl) (by kernel_rfl) ?_
   simp only [takS,Exs]
   iterate 9 apply Exists.intro
   iterate 3
    apply Run.valG (wanted_none rfl _)
    ·intro w1 h1 hk
     go_simp;rfl
    simp only [actS]
   apply Run.valG (wanted_none rfl _)
   ·intro w1 h1 hk
    have q1:=h1.cell x0;have q2:=h1.cell y0
    have hcw:=fun b o => Below.cell (p:=⟨b,o,none⟩) h1
    go_simp;rfl
   simp only [actS]
   iterate 3
    apply Run.valG (wanted_none rfl _)
    ·intro w1 h1 hk
     go_simp;rfl
    simp only [actS]
   apply Run.valG (wanted_none rfl _)
   ·intro w1 h1 hk
    have q1:=h1.cell x0;have q2:=h1.cell y0
    have hcw:=fun b o => Below.cell (p:=⟨b,o,none⟩) h1
    go_simp;rfl
   simp only [actS]
   apply Run.valG (wanted_none rfl _)
   ·intro w1 h1 hk
    go_simp;rfl
   simp only [actS]
   apply Run.done
   intro w2 h2 hk
   clear hk
   have hGn:=Lib.hid (hG.out.trans ((Fut.drew _).trans h2))
   clear h2
   go_wp2
   go_roundw
   case rel => exact ⟨k + 1,by omega,by go_num,hGn⟩
   case measure => simp [intOf] <;> omega
  ·obtain rfl:k = xs.length:=by omega
   go_wp2
   go_ret
   exact ⟨rfl,hG.out⟩
set_option maxHeartbeats 1600000 in
set_option maxRecDepth 100000 in
theorem rhas9_any {M:Nat} (s:ByteArray) (A:Option Addr) (c:Nat) (L:List ByteArray) (w:World) (h:SlRep 1 M RNm w (.slice A L.length c) L) (hM:M ≤ 9223372036854775807) :
    Calls Tryz.prog 30 #[.slice A L.length c,.string s] w fun e w' => e = .returned (.bool (decide (s ∈ L)))∧w' = w:=by
 have H:=Lib.hid h
 obtain ⟨_,_,hv,hl1,hl2⟩:=h.form
 have hxl:L.length ≤ 9223372036854775807:=by omega
 obtain ⟨b,hb⟩:∃ b,decide (s ∈ L) = b:=⟨_,rfl⟩
 rw [hb]
 replace hb:=Lib.hid hb
 clear h hv hl1 hl2
 go_enter Tryz.func30,Tryz.ntmps30
 go_wp2_with fail
 go_loopw [5] (fun i wr => ∃ k:Nat,k ≤ L.length∧i = .int .i64 k∧Hid (wr = w)∧Hid (∀ x ∈ L.take k,x ≠ s)) (fun i _ => L.length - (intOf i).toNat)
 case atStart => exact ⟨0,Nat.zero_le _,rfl,Lib.hid rfl,Lib.hid (fun x hx => by simp at hx)⟩
 case round =>
  obtain ⟨k,hk,rfl,hW,hI⟩:=hrel
  obtain rfl:=hW.out
  by_cases hlt:k < L.length
  ·have hltI:(k:Int) < L.length:=by omega
   have e0:(0:Int) ≤ k∧(k:Int) < L.length:=by omega
   obtain ⟨b',off,rfl,u0⟩:=nm_at H.out hlt
   have hnx:=Lib.hid (List.take_succ_eq_append_getElem hlt)
   have hmem:=Lib.hid (List.getElem_mem hlt)
   generalize L[k] = z at *
   by_cases hz:z = s
   ·obtain rfl:b = true:=(by rw [← hb.out];exact decide_eq_true (hz ▸ hmem.out))
    subst hz
    go_wp2
    go_ret
    exact ⟨rfl,rfl⟩
   ·have hI2:Hid (∀ x ∈ L.take (k + 1),x ≠ s):=Lib.hid fun x hx => by
      rw [hnx.out,List.mem_append] at hx
      rcases hx with hx | hx
      ·exact hI.out x hx
      ·rw [List.mem_singleton] at hx;subst hx;exact hz
    have hzb:(z.toList == s.toList) = false:=(by
     rw [beq_eq_false_iff_ne]
     intro h
     rw [ByteArray.toList_eq,ByteArray.toList_eq] at h
     exact hz (ByteArray.ext (Array.toList_inj.1 (by simpa using h))))
    go_wp2
    go_roundw
    case rel => exact ⟨k + 1,by omega,by go_num,(by first | exact Lib.hid trivial | exact Lib.hid rfl),hI2⟩
    case measure => simp [intOf] <;> omega
  ·obtain rfl:k = L.length:=by omega
   rw [List.take_length] at hI
   obtain rfl:b = false:=(by rw [← hb.out];exact decide_eq_false (fun h => hI.out s h rfl))
   go_wp2
   go_ret
   exact ⟨rfl,rfl⟩
end Go.Proofs.YtobabnpllokkaaaGreatDoor
namespace Go.Proofs.YtobabnpllokkaaaGreatDoor
open Go.RowKit
structure Bf (es:List Ed) (ok:Ed→Prop) (p:ByteArray) (seen:List ByteArray) (i k:Nat):Prop where
 nd:seen.Nodup
 hd:p ∈ seen
 le:i ≤ seen.length
 src:∀ x ∈ seen,x ∈ p :: es.map (·.t)
 snd:∀ D:ByteArray→Prop,D p→(∀ e ∈ es,ok e→D e.f→D e.t)→∀ x ∈ seen,D x
 cl:∀ (j:Nat) x,j < i→seen[j]? = some x→∀ e ∈ es,ok e→e.f = x→e.t ∈ seen
 cur:∀ x,seen[i]? = some x→∀ e ∈ es.take k,ok e→e.f = x→e.t ∈ seen
section
variable {es:List Ed} {ok:Ed→Prop} {p:ByteArray} {seen:List ByteArray} {i k:Nat} {x:ByteArray}
theorem Bf.start (es:List Ed) (ok:Ed→Prop) (p:ByteArray):Bf es ok p [p] 0 0 :=
 ⟨by simp,List.mem_singleton.2 rfl,Nat.zero_le _,fun x hx => by rw [List.mem_singleton] at hx;subst hx;exact List.mem_cons_self,fun D h0 _ x hx => by rw [List.mem_singleton] at hx;subst hx;exact h0,fun j x hj => by omega,fun x _ e he => by simp at he⟩
theorem Bf.skip (h:Bf es ok p seen i k) (hk:k < es.length) (hx:∀ x,seen[i]? = some x→ok es[k]→es[k].f = x→es[k].t ∈ seen):Bf es ok p seen i (k + 1) :=
 ⟨h.nd,h.hd,h.le,h.src,h.snd,h.cl,fun x hi e he ho hf => by
  rw [List.take_succ_eq_append_getElem hk,List.mem_append,List.mem_singleton] at he
  rcases he with he | rfl
  ·exact h.cur x hi e he ho hf
  ·exact hx x hi ho hf⟩
theorem Bf.push (h:Bf es ok p seen i k) (hk:k < es.length) (hi:seen[i]? = some x) (ho:ok es[k]) (hf:es[k].f = x) (hn:es[k].t ∉ seen):Bf es ok p (seen ++ [es[k].t]) i (k + 1):=by
 have hil:i < seen.length:=(List.getElem?_eq_some_iff.1 hi).1
 have hget:∀ (j:Nat),j ≤ i→(seen ++ [es[k].t])[j]? = seen[j]?:=fun j hj => List.getElem?_append_left (by omega)
 have hmem:es[k] ∈ es:=List.getElem_mem hk
 refine ⟨?_,List.mem_append_left _ h.hd,by rw [List.length_append];omega,fun y hy => ?_,fun D h0 hD y hy => ?_,fun j y hj hy e he hoe hfe => ?_,fun y hy e he hoe hfe => ?_⟩
 ·rw [List.nodup_append]
  refine ⟨h.nd,by simp,fun a ha b hb e => ?_⟩
  rw [List.mem_singleton] at hb
  exact hn (by rw [← hb,← e];exact ha)
 ·rcases List.mem_append.1 hy with q | q
  ·exact h.src y q
  ·rw [List.mem_singleton] at q;subst q
   exact List.mem_cons_of_mem _ (List.mem_map_of_mem hmem)
 ·rcases List.mem_append.1 hy with q | q
  ·exact h.snd D h0 hD y q
  ·rw [List.mem_singleton] at q;subst q
   refine hD _ hmem ho ?_
   rw [hf]
   exact h.snd D h0 hD x (List.mem_of_getElem? hi)
 ·rw [hget j (by omega)] at hy
  exact List.mem_append_left _ (h.cl j y hj hy e he hoe hfe)
 ·rw [hget i (Nat.le_refl _)] at hy
  rw [List.take_succ_eq_append_getElem hk,List.mem_append,List.mem_singleton] at he
  rcases he with he | rfl
  ·exact List.mem_append_left _ (h.cur y hy e he hoe hfe)
  ·exact List.mem_append_right _ (List.mem_singleton.2 rfl)
theorem Bf.next (h:Bf es ok p seen i es.length) (hi:i < seen.length):Bf es ok p seen (i + 1) 0 :=
 ⟨h.nd,h.hd,hi,h.src,h.snd,fun j x hj hx e he ho hf => by
  by_cases hji:j < i
  ·exact h.cl j x hji hx e he ho hf
  ·have:j = i:=by omega
   subst this
   exact h.cur x hx e (by rw [List.take_length];exact he) ho hf,fun x _ e he => by simp at he⟩
theorem Bf.len (h:Bf es ok p seen i k):seen.length ≤ es.length + 1:=by
 have:=nodup_le h.nd h.src
 rw [List.length_cons,List.length_map] at this
 omega
theorem Bf.closed (h:Bf es ok p seen seen.length k):∀ e ∈ es,ok e→e.f ∈ seen→e.t ∈ seen:=fun e he ho hf => by
 obtain ⟨j,hj⟩:=List.getElem?_of_mem hf
 exact h.cl j _ (List.getElem?_eq_some_iff.1 hj).1 hj e he ho rfl
end
theorem Bf.rch {rs:List Ru} {ok:Ed→Prop} {p:ByteArray} {seen:List ByteArray} {k:Nat} (h:Bf (edgesP rs) ok p seen seen.length k) (hok:∀ e ∈ edgesP rs,ok e) (x:ByteArray):x ∈ seen↔Rch (drawP rs) p x:=by
 constructor
 ·refine h.snd (fun x => Rch (drawP rs) p x) (.refl p) (fun e he _ hr => hr.trans (.one (edge_suc.2 ⟨e,he,rfl,rfl⟩))) x
 ·intro hr
  refine hr.closed (D:=fun x => x ∈ seen) (fun u hu t ht => ?_) h.hd
  obtain ⟨e,he,rfl,rfl⟩:=edge_suc.1 ht
  exact h.closed e he (hok e he) hu
def ReachOf (rs:List Ru) (p:ByteArray) (L:List ByteArray):Prop:=Up cmpS L∧∀ x,x ∈ L↔Rch (drawP rs) p x
theorem ReachOf.uniq {rs:List Ru} {p:ByteArray} {L L':List ByteArray} (h:ReachOf rs p L) (h':ReachOf rs p L'):L = L':=Up.uniq totS h.1 h'.1 fun x => (h.2 x).trans (h'.2 x).symm
theorem up9_nodup:∀ {L:List ByteArray},Up cmpS L→L.Nodup
 | [],_ => List.nodup_nil
 | a :: l,h => by
  have h':=List.pairwise_cons.1 h
  refine List.nodup_cons.2 ⟨fun hm => totS.irr a (h'.1 a hm),up9_nodup h'.2⟩
end Go.Proofs.YtobabnpllokkaaaGreatDoor
namespace Go.Proofs.YtobabnpllokkaaaGreatDoor
open Go.RowKit Go.WideMaps Go.Maps
structure PartAt (rs:List Ru) (D p:List ByteArray):Prop where
 ne:p ≠ []
 up:Up cmpS p
 nm:∀ u ∈ p,u ∈ (drawP rs).names
 ap:∀ u ∈ p,u ∉ D
 rd:∀ u ∈ p,∀ r,ReachOf rs u r→∀ v ∈ r,v ∉ D→v ∈ p
 all:∀ u ∈ p,∀ r,ReachOf rs u r→∀ v ∈ p,v ∈ r
 back:∀ u ∈ p,∀ r,ReachOf rs u r→∀ x ∈ D,x ∈ r→∀ r',ReachOf rs x r'→u ∉ r'
section
variable {N:ByteArray→Prop} {R:ByteArray→ByteArray→Prop}
structure ClsList (N:ByteArray→Prop) (R:ByteArray→ByteArray→Prop) (P:List (List ByteArray)):Prop where
 cls:∀ p ∈ P,Cls N R p
 all:∀ q,Cls N R q→q ∈ P
 up:P.Pairwise fun p q => cmpS (hdP p) (hdP q) < 0
end
theorem Up.at_lt {l:List ByteArray} (h:Up cmpS l) {i j:Nat} {a b:ByteArray} (ha:l[i]? = some a) (hb:l[j]? = some b) (hij:i < j):cmpS a b < 0:=by
 obtain ⟨l1,rfl⟩:=List.getElem?_eq_some_iff.1 ha
 obtain ⟨l2,rfl⟩:=List.getElem?_eq_some_iff.1 hb
 exact List.pairwise_iff_getElem.1 h i j l1 l2 hij
structure GrpI (N:ByteArray→Prop) (R:ByteArray→ByteArray→Prop) (names:List ByteArray) (i:Nat) (inn:List ByteArray) (P:List (List ByteArray)):Prop where
 inn_:∀ v,v ∈ inn↔∃ k u,k < i∧names[k]? = some u∧R u v∧R v u
 cls:∀ p ∈ P,Cls N R p
 at_:∀ p ∈ P,∃ k,k < i∧names[k]? = some (hdP p)
 all:∀ q,Cls N R q→(∃ k,k < i∧names[k]? = some (hdP q))→q ∈ P
 up:P.Pairwise fun p q => cmpS (hdP p) (hdP q) < 0
section
variable {N:ByteArray→Prop} {R:ByteArray→ByteArray→Prop} {names inn:List ByteArray} {P:List (List ByteArray)} {i:Nat}
end
theorem lv_set {names:List ByteArray} (hnd:names.Nodup) {k:Nat} {s:ByteArray} (hk:names[k]? = some s) (n:Nums) (m:Nat):(names.map fun x => (x,lk0 n x)).set k (s,m) = names.map fun x => (x,lk0 (setN n s m) x):=by
 obtain ⟨hl,rfl⟩:=List.getElem?_eq_some_iff.1 hk
 refine List.ext_getElem? fun j => ?_
 rw [List.getElem?_set,List.length_map,List.getElem?_map,List.getElem?_map]
 by_cases hj:k = j
 ·subst hj
  rw [if_pos rfl,if_pos hl,List.getElem?_eq_getElem hl]
  simp [lk0_set]
 ·rw [if_neg hj]
  cases hq:names[j]? with
  | none => rfl
  | some x =>
   have hne:x ≠ names[k]:=fun e => by
    obtain ⟨l2,e2⟩:=List.getElem?_eq_some_iff.1 hq
    rcases Nat.lt_or_gt_of_ne hj with q | q
    ·exact List.pairwise_iff_getElem.1 hnd k j hl l2 q (e2.trans e).symm
    ·exact List.pairwise_iff_getElem.1 hnd j k l2 hl q (e2.trans e)
   simp [lk0_set,hne]
def PutI (l:List ByteArray) (s:ByteArray) (i:Nat) (done:Bool) (out:List ByteArray):Prop :=
 (done = false∧out = l.take i∧∀ x ∈ l.take i,cmpS x s < 0)∨(done = true∧∃ j,j < i∧out = l.take j ++ s :: (l.take i).drop j∧(∀ x ∈ l.take j,cmpS x s < 0)∧∀ x,l[j]? = some x→cmpS s x < 0)
theorem PutI.start (l:List ByteArray) (s:ByteArray):PutI l s 0 false []:=.inl ⟨rfl,rfl,fun x h => by simp at h⟩
section
variable {l out:List ByteArray} {s x:ByteArray} {i:Nat} {done:Bool}
theorem PutI.past (h:PutI l s i false out) (hx:l[i]? = some x) (hlt:cmpS x s < 0):PutI l s (i + 1) false (out ++ [x]):=by
 rcases h with ⟨_,rfl,h2⟩ | ⟨h1,_⟩
 ·obtain ⟨hl,rfl⟩:=List.getElem?_eq_some_iff.1 hx
  refine .inl ⟨rfl,(List.take_succ_eq_append_getElem hl).symm,fun y hy => ?_⟩
  rw [List.take_succ_eq_append_getElem hl,List.mem_append,List.mem_singleton] at hy
  rcases hy with hy | rfl
  ·exact h2 y hy
  ·exact hlt
 ·cases h1
theorem PutI.here (h:PutI l s i false out) (hx:l[i]? = some x) (hlt:cmpS s x < 0):PutI l s (i + 1) true (out ++ [s] ++ [x]):=by
 rcases h with ⟨_,rfl,h2⟩ | ⟨h1,_⟩
 ·obtain ⟨hl,rfl⟩:=List.getElem?_eq_some_iff.1 hx
  refine .inr ⟨rfl,i,by omega,?_,h2,fun y hy => by rw [hx] at hy;injection hy with hy;rw [← hy];exact hlt⟩
  rw [List.take_succ_eq_append_getElem hl,List.drop_append_of_le_length (by rw [List.length_take];omega),List.drop_eq_nil_of_le (by rw [List.length_take];omega)]
  simp
 ·cases h1
theorem PutI.on (h:PutI l s i true out) (hx:l[i]? = some x):PutI l s (i + 1) true (out ++ [x]):=by
 rcases h with ⟨h1,_⟩ | ⟨_,j,h1,rfl,h3,h4⟩
 ·cases h1
 ·obtain ⟨hl,rfl⟩:=List.getElem?_eq_some_iff.1 hx
  refine .inr ⟨rfl,j,by omega,?_,h3,h4⟩
  rw [List.take_succ_eq_append_getElem hl,List.drop_append_of_le_length (by rw [List.length_take];omega)]
  simp
theorem PutI.fin (hu:Up cmpS l) (h:PutI l s l.length done out):Up cmpS (if done = true then out else out ++ [s])∧∀ x,x ∈ (if done = true then out else out ++ [s])↔x ∈ l∨x = s:=by
 rcases h with ⟨rfl,rfl,h2⟩ | ⟨rfl,j,h1,rfl,h3,h4⟩
 ·rw [List.take_length] at h2 ⊢
  refine ⟨List.pairwise_append.2 ⟨hu,List.pairwise_singleton _ _,fun a ha b hb => ?_⟩,fun x => by simp⟩
  rw [List.mem_singleton] at hb;subst hb;exact h2 a ha
 ·rw [List.take_length,if_pos rfl]
  have hs:∀ y ∈ l.drop j,cmpS s y < 0:=fun y hy => by
   obtain ⟨k,hk⟩:=List.getElem?_of_mem hy
   rw [List.getElem?_drop] at hk
   have h0:=h4 l[j] (List.getElem?_eq_getElem h1)
   by_cases hk0:k = 0
   ·subst hk0
    rw [Nat.add_zero,List.getElem?_eq_getElem h1] at hk
    injection hk with hk
    rwa [hk] at h0
   ·exact totS.trans _ _ _ h0 (hu.at_lt (List.getElem?_eq_getElem h1) hk (by omega))
  have hsp:l.take j ++ l.drop j = l:=List.take_append_drop j l
  have hu2:=hu
  rw [← hsp] at hu2
  obtain ⟨u1,u2,u3⟩:=List.pairwise_append.1 hu2
  refine ⟨List.pairwise_append.2 ⟨u1,List.pairwise_cons.2 ⟨hs,u2⟩,fun a ha b hb => ?_⟩,fun x => ?_⟩
  ·rcases List.mem_cons.1 hb with rfl | hb
   ·exact h3 a ha
   ·exact u3 a ha b hb
  ·rw [List.mem_append,List.mem_cons]
   conv => rhs;rw [← hsp,List.mem_append]
   constructor
   ·rintro (h | h | h)
    ·exact .inl (.inl h)
    ·exact .inr h
    ·exact .inl (.inr h)
   ·rintro ((h | h) | h)
    ·exact .inl h
    ·exact .inr (.inr h)
    ·exact .inr (.inl h)
end
end Go.Proofs.YtobabnpllokkaaaGreatDoor
