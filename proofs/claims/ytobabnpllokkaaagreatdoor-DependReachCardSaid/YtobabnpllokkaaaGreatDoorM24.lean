/- Parts. -/
import Derived.Test.YtobabnpllokkaaaGreatDoorM04
import Derived.Test.YtobabnpllokkaaaGreatDoorM02
set_option linter.unusedSimpArgs false
set_option linter.unusedVariables false
namespace Go.Proofs.YtobabnpllokkaaaGreatDoor
open Go.RowKit
structure Hd where
 l:Value
 long:Value
 n:Int
def Hd.cells (h:Hd):List Value:=[h.l,h.long,.int .i64 h.n]
def RH (_:World) (cs:List Value) (h:Hd):Prop:=cs = h.cells∧(∃ A n c,h.l = .slice A n c)∧∃ A n c,h.long = .slice A n c
theorem RH.stays:Stays RH:=fun _ _ _ _ _ h => h
theorem RH.one:∀ (w:World) cs x,RH w cs x→∀ u ∈ cs,u.oneCell' = true:=fun w cs x h u hu => by
 obtain ⟨rfl,⟨A,n,c,h1⟩,A',n',c',h2⟩:=h
 simp only [Hd.cells,List.mem_cons,List.not_mem_nil,or_false] at hu
 rcases hu with rfl | rfl | rfl
 ·rw [h1];rfl
 ·rw [h2];rfl
 ·rfl
theorem set_some {α:Type} {l:List α} {k i:Nat} {a x:α} (h:(l.set k a)[i]? = some x):(k = i∧x = a)∨(k ≠ i∧l[i]? = some x):=by
 by_cases hki:k = i
 ·subst hki
  have h2:=(List.getElem?_eq_some_iff.1 h).2
  rw [List.getElem_set_self] at h2
  exact .inl ⟨rfl,h2.symm⟩
 ·rw [List.getElem?_set_ne hki] at h
  exact .inr ⟨hki,h⟩
theorem flatten_set {sz:Nat} {css:List (List Value)} (hs:∀ (i:Nat) (cs:List Value),css[i]? = some cs→cs.length = sz) {k:Nat} (hk:k < css.length) {cs:List Value} (hc:cs.length = sz) (j:Nat) :
    (css.set k cs).flatten[j]? = if k * sz ≤ j∧j < k * sz + sz then cs[j - k * sz]? else css.flatten[j]?:=by
 have hs':∀ (i:Nat) (ds:List Value),(css.set k cs)[i]? = some ds→ds.length = sz:=fun i ds hi => by
  rcases set_some hi with ⟨_,rfl⟩ | ⟨_,h⟩
  ·exact hc
  ·exact hs i ds h
 by_cases hz:sz = 0
 ·subst hz
  rw [if_neg (by omega)]
  have e1:=flatten_len hs'
  have e2:=flatten_len hs
  rw [List.getElem?_eq_none (by omega),List.getElem?_eq_none (by omega)]
 by_cases hj:j < css.length * sz
 ·have hq:j / sz < css.length:=Nat.div_lt_of_lt_mul (by rw [Nat.mul_comm];exact hj)
  have hr:j % sz < sz:=Nat.mod_lt _ (by omega)
  have hd:j / sz * sz + j % sz = j:=by rw [Nat.mul_comm];exact Nat.div_add_mod j sz
  by_cases hqk:j / sz = k
  ·rw [if_pos (by rw [← hqk];omega)]
   have h1:(css.set k cs)[k]? = some cs:=by rw [List.getElem?_set];simp [hk]
   have h2:cs[j % sz]? = some (cs[j % sz]'(by omega)):=List.getElem?_eq_getElem (by omega)
   have h3:=flatten_at hs' k (j % sz) cs _ h1 h2
   rw [← hqk,hd] at h3
   rw [← hqk,h3,show j - j / sz * sz = j % sz by omega,h2]
  ·rw [if_neg (fun h => hqk (by
     obtain ⟨h1,h2⟩:=h
     refine Nat.div_eq_of_lt_le h1 ?_
     rw [Nat.add_mul];omega))]
   have h1:css[j / sz]? = some (css[j / sz]'hq):=List.getElem?_eq_getElem hq
   have h1':(css.set k cs)[j / sz]? = some (css[j / sz]'hq):=by rw [List.getElem?_set_ne (fun e => hqk e.symm)];exact h1
   have hl:=hs _ _ h1
   have h2:(css[j / sz]'hq)[j % sz]? = some ((css[j / sz]'hq)[j % sz]'(by omega)):=List.getElem?_eq_getElem (by omega)
   have h3:=flatten_at hs' _ _ _ _ h1' h2
   have h4:=flatten_at hs _ _ _ _ h1 h2
   rw [hd] at h3 h4
   rw [h3,h4]
 ·have e1:=flatten_len hs'
  have e2:=flatten_len hs
  rw [List.length_set] at e1
  have hks:k * sz + sz ≤ css.length * sz:=by
   have:=Nat.mul_le_mul_right sz (show k + 1 ≤ css.length from hk)
   rwa [Nat.add_mul,Nat.one_mul] at this
  rw [if_neg (by omega),List.getElem?_eq_none (by omega),List.getElem?_eq_none (by omega)]
section
variable {α:Type} {sz B M:Nat} {e:TypeId} {R:World→List Value→α→Prop} {w w':World} {v u:Value} {xs ys:List α}
theorem OwnL.write {g o n cap:Nat} (h:OwnL sz B e R w (Value.slice (some ⟨g,o,none⟩) n cap) xs) {arr arr':Array Value} (hg:w.heap[g]? = some (Obj.cells arr e (0,0))) (hg':w'.heap[g]? = some (Obj.cells arr' e (0,0))) {k:Nat} (hk:k < xs.length) {cs:List Value} {y:α}
    (ha:∀ j,arr'[j]? = if k * sz ≤ j∧j < k * sz + sz then cs[j - k * sz]? else arr[j]?) (hcl:cs.length = sz) (hy:R w' cs y) (hR:∀ cs x,R w cs x→R w' cs x):OwnL sz B e R w' (Value.slice (some ⟨g,o,none⟩) n cap) (xs.set k y):=by
 obtain ⟨css,h1,h2,h3,h4⟩:=h
 rcases h4 with ⟨h4,_⟩ | ⟨g0,cap0,cur,hv,a2,a3,a4,a5,a6,a7⟩
 ·cases h4
 injection hv with hv1 hv2 hv3
 injection hv1 with hv1
 injection hv1 with hv4 hv5
 subst hv2 hv3 hv4 hv5
 rw [hg] at a3
 injection a3 with a3
 injection a3 with a3
 subst a3
 have hs:∀ (i:Nat) (cs:List Value),css[i]? = some cs→cs.length = sz:=fun i cs hi => by
  have hl:i < css.length:=(List.getElem?_eq_some_iff.1 hi).1
  exact (h2 i cs _ hi (List.getElem?_eq_getElem (by omega))).1
 have hkc:k < css.length:=by omega
 have hsz:arr'.size = arr.size:=by
  have hks:k * sz + sz ≤ arr.size:=by
   have:=Nat.mul_le_mul_right sz (show k + 1 ≤ cap by omega)
   rw [Nat.add_mul,Nat.one_mul] at this
   omega
  have q1:=ha arr.size
  rw [if_neg (by omega),Array.getElem?_eq_none (Nat.le_refl _)] at q1
  have q2:=Array.getElem?_eq_none_iff.1 q1
  rcases Nat.lt_or_ge arr'.size arr.size with q3 | q3
  ·have q4:=ha arr'.size
   rw [Array.getElem?_eq_none (Nat.le_refl _)] at q4
   split at q4
   ·rename_i q5
    rw [List.getElem?_eq_getElem (by omega)] at q4
    cases q4
   ·rw [Array.getElem?_eq_getElem q3] at q4
    cases q4
  ·omega
 have hfl:(css.set k cs).flatten.length = xs.length * sz:=by
  rw [flatten_len (sz:=sz),List.length_set,h1]
  intro i ds hi
  rcases set_some hi with ⟨_,rfl⟩ | ⟨_,h⟩
  ·exact hcl
  ·exact hs i ds h
 refine ⟨css.set k cs,by simp [h1],fun i ds x hi hx => ?_,by rw [List.length_set];exact hfl,.inr ⟨g,cap,arr',?_,a2,hg',by rw [List.length_set];exact a4,a5,by rw [hsz];exact a6,?_⟩⟩
 ·rcases set_some hi with ⟨h5,rfl⟩ | ⟨h5,h6⟩
  ·rcases set_some hx with ⟨_,rfl⟩ | ⟨h7,_⟩
   ·exact ⟨hcl,hy⟩
   ·exact absurd h5 h7
  ·rcases set_some hx with ⟨h7,_⟩ | ⟨_,h8⟩
   ·exact absurd h7 h5
   ·exact ⟨(h2 i ds x h6 h8).1,hR _ _ (h2 i ds x h6 h8).2⟩
 ·rw [List.length_set]
 ·rw [List.length_set]
  refine List.ext_getElem? fun j => ?_
  rw [flatten_set hs hkc hcl,List.getElem?_take]
  by_cases hj:j < xs.length * sz
  ·rw [if_pos hj,Array.getElem?_toList,ha]
   split
   ·rfl
   ·have q:=congrArg (fun l => l[j]?) a7
    simp only [List.getElem?_take,if_pos hj,Array.getElem?_toList] at q
    exact q
  ·rw [if_neg hj]
   have hks:k * sz + sz ≤ xs.length * sz:=by
    have:=Nat.mul_le_mul_right sz (show k + 1 ≤ xs.length from hk)
    rwa [Nat.add_mul,Nat.one_mul] at this
   rw [if_neg (by omega),List.getElem?_eq_none (by rw [flatten_len hs,h1];omega)]
theorem SlRep.prefix {A:Option Addr} {n cap m cap' M':Nat} (h:SlRep sz M R w (.slice A n cap) ys) (hm:m ≤ ys.length) (hc:m ≤ cap') (hM:cap' ≤ M'):SlRep sz M' R w (.slice A m cap') (ys.take m):=by
 obtain ⟨A1,cap1,hv,h1,h2,h3⟩:=h
 injection hv with hv _ _
 refine ⟨A,cap',by rw [List.length_take,Nat.min_eq_left hm],by rw [List.length_take];omega,hM,fun i x hx => ?_⟩
 rw [List.getElem?_take] at hx
 split at hx
 ·obtain ⟨b,off,cs,k1,k2,k3⟩:=h3 i x hx
  exact ⟨b,off,cs,hv.trans k1,k2,k3⟩
 ·cases hx
end
section
variable {α:Type} {sz B M:Nat} {e e':TypeId} {R:World→List Value→α→Prop} {w w':World} {v:Value} {xs:List α}
theorem run_append1 {P:Program} (t ty:TypeId) (i:TypeInfo) (z:Value) (bytes:Nat) (ht:P.underlying t = some (.slice e)) (hi:P.info? e = some i) (hz:i.zero = some z) (hsize:i.size = sz) (hby:i.bytes = bytes) (hzs:z.cells.size = sz) (hsz:0 < sz)
    (hR1:∀ w cs x,R w cs x→∀ u ∈ cs,u.oneCell' = true) (hRk:∀ w' cs (x:α),R w cs x→w.grownBy w' v.ownBlock→R w' cs x)
    (h:OwnL sz B e R w v xs) {b:Nat} {cs:List Value} {y:α} (hb:w.heap[b]? = some (Obj.cells cs.toArray e' (0,0))) (hcl:cs.length = sz) (hy:R w cs y) (h63:xs.length + 1 ≤ maxLen) (hbytes:(xs.length + 1) * bytes ≤ 140737488355328) (hbase:B ≤ w.heap.size) :
    ∃ v' w',(Builtin.append_ #[t,t] ty #[v,.slice (some ⟨b,0,none⟩) 1 1]).run P w = .ok v' w'∧OwnL sz B e R w' v' (xs ++ [y])∧w.grownBy w' v.ownBlock∧(v'.ownBlock = v.ownBlock∨v'.ownBlock = some w.heap.size∧w.grownBy w' none):=by
 have hcell:∀ j c,cs[j]? = some c→w.cell? ⟨b,j,none⟩ = some c:=fun j c hj => by simp [World.cell?,hb,hj]
 have hu:SlRep sz 1 R w (.slice (some ⟨b,0,none⟩) 1 1) [y]:=by
  refine ⟨_,1,rfl,Nat.le_refl _,Nat.le_refl _,fun k x hx => ?_⟩
  have hk:k = 0:=by
   have:=(List.getElem?_eq_some_iff.1 hx).1
   simp at this;omega
  subst hk
  simp only [List.getElem?_cons_zero,Option.some.injEq] at hx
  subst hx
  exact ⟨b,0,cs,rfl,hcl,fun j c hj => by rw [show 0 + (0 * sz + j) = j by omega];exact hcell j c hj,hy⟩
 obtain ⟨v',w',r1,r2,r3,r5⟩:=run_append_list_at (P:=P) t ty i z bytes ht hi hz hsize hby hzs hsz hR1 hRk h hu h63 hbytes hbase
 refine ⟨v',w',r1,r2,r3,?_⟩
 rcases r5 with r5 | r5
 ·exact .inl r5
 obtain ⟨css,h1,h2,h3⟩:=h
 have h3':=h3
 obtain ⟨h4,h5⟩:=h3
 rcases h5 with ⟨rfl,h6⟩ | ⟨g,cap,cur,rfl,a2,a3,a4,a5,a6,a7⟩
 ·exact .inr ⟨r5,r3⟩
 subst hsize
 have hadd:∀ j c,cs[j]? = some c→w.cell? ((⟨b,0,none⟩:Addr).add j) = some c:=fun j c hj => by
  rw [show (⟨b,0,none⟩:Addr).add j = ⟨b,j,none⟩ by rw [Addr.add_lit,Nat.zero_add]]
  exact hcell j c hj
 by_cases hroom:xs.length + 1 ≤ cap
 ·have hfit:xs.length * i.size + cs.length ≤ cur.size:=by
    rw [hcl,a6]
    have:=Nat.mul_le_mul_right i.size hroom
    rwa [Nat.add_mul,Nat.one_mul] at this
  have hr:=run_append_room (P:=P) w t ty e i ht hi g xs.length cap cur a3 ⟨b,0,none⟩ 1 1 cs (by omega) hadd (hR1 _ _ _ hy) hroom hfit
  rw [r1] at hr
  injection hr with hr1 hr2
  subst hr1
  exact .inl rfl
 ·have holds:∀ j u,css.flatten[j]? = some u→w.cell? ((⟨g,0,none⟩:Addr).add j) = some u:=h3'.cells (g:=g) rfl
  have hr:=run_append_grow (P:=P) w t ty e i z ht hi hz ⟨g,0,none⟩ xs.length cap css.flatten h4 holds ⟨b,0,none⟩ 1 1 cs (by omega) hadd (by omega) (by simp only [maxLen] at h63;omega) (growslice_fits (by omega) (by rw [hby];exact hbytes))
  rw [r1] at hr
  injection hr with hr1 hr2
  subst hr2
  exact .inr ⟨r5,⟨rfl,rfl,rfl,by simp,fun k hk _ => heap_alloc_old w.drew _ hk⟩⟩
end
theorem RH.same (w w':World) (cs:List Value) (x:Hd) (h:RH w cs x):RH w' cs x:=h
structure Lists {α:Type} (sz B:Nat) (e:TypeId) (R:World→List Value→α→Prop) (w:World) (hs:List Hd) (f:Nat→List α):Prop where
 each:∀ (i:Nat) (h:Hd),hs[i]? = some h→OwnL sz B e R w h.l (f i)
 apart:∀ (i j:Nat) (h k:Hd),hs[i]? = some h→hs[j]? = some k→i ≠ j→∀ x,h.l.ownBlock = some x→k.l.ownBlock ≠ some x
def ownsL (hs:List Hd) (k:Nat):Prop:=∃ (i:Nat) (h:Hd),hs[i]? = some h∧h.l.ownBlock = some k
def markF {α:Type} (mk:Int→α) (hs:List Hd) (f:Nat→List α) (i:Nat):List α:=match hs[i]? with
 | some h => List.replicate (f i).length (mk h.n)
 | none => f i
def upTo {α:Type} (k:Nat) (f g:Nat→List α) (i:Nat):List α:=if i < k then f i else g i
theorem markF_at {α:Type} {mk:Int→α} {hs:List Hd} {f:Nat→List α} {i:Nat} {h:Hd} (hi:hs[i]? = some h):markF mk hs f i = List.replicate (f i).length (mk h.n):=by unfold markF;rw [hi]
theorem set1_spec {arr:Array Value} {q:Nat} {v:Value} (hq:q < arr.size) (j:Nat):(arr.setIfInBounds q v)[j]? = if q * 1 ≤ j∧j < q * 1 + 1 then [v][j - q * 1]? else arr[j]?:=by
 rw [Nat.mul_one]
 by_cases h:q = j
 ·subst h
  rw [if_pos (by omega)]
  simp [hq]
 ·rw [if_neg (by omega),Array.getElem?_setIfInBounds_ne h]
theorem set_held {arr:Array Value} {k:Nat} {l L:Value} {n:Int} (h0:arr[k * 3]? = some l) (h2:arr[k * 3 + 2]? = some (.int .i64 n)) (j:Nat):(arr.setIfInBounds (k * 3 + 1) L)[j]? = if k * 3 ≤ j∧j < k * 3 + 3 then (Hd.cells ⟨l,L,n⟩)[j - k * 3]? else arr[j]?:=by
 have hs:=(Array.getElem?_eq_some_iff.1 h2).1
 by_cases hj:k * 3 ≤ j∧j < k * 3 + 3
 ·rw [if_pos hj]
  rcases (show j = k * 3∨j = k * 3 + 1∨j = k * 3 + 2 by omega) with rfl | rfl | rfl
  ·rw [Array.getElem?_setIfInBounds_ne (by omega),h0,Nat.sub_self];rfl
  ·rw [show k * 3 + 1 - k * 3 = 1 by omega]
   simp [Hd.cells,show k * 3 + 1 < arr.size by omega]
  ·rw [Array.getElem?_setIfInBounds_ne (by omega),h2,show k * 3 + 2 - k * 3 = 2 by omega];rfl
 ·rw [if_neg hj,Array.getElem?_setIfInBounds_ne (by omega)]
theorem arr_of_cell {w:World} {g i:Nat} {arr:Array Value} {t:TypeId} {fr:Nat × Nat} {v:Value} (hg:w.heap[g]? = some (.cells arr t fr)) (hc:w.cell? ⟨g,i,none⟩ = some v):arr[i]? = some v:=by
 simpa [World.cell?,hg] using hc
section
variable {α:Type} {sz B M:Nat} {e:TypeId} {R:World→List Value→α→Prop} {w w':World} {hs:List Hd} {f f':Nat→List α} {S:Nat→Prop}
theorem Lists.only (h:Lists sz B e R w hs f) (hR:∀ cs x,R w cs x→R w' cs x) (hf:Only S w w') (hd:∀ k,ownsL hs k→¬ S k):Lists sz B e R w' hs f :=
 ⟨fun i h' hi => (h.each i h' hi).only hR hf fun k hk => hd k ⟨i,h',hi,hk⟩,h.apart⟩
theorem Lists.cong (h:Lists sz B e R w hs f) (he:∀ i,i < hs.length→f i = f' i):Lists sz B e R w hs f' :=
 ⟨fun i h' hi => by rw [← he i (List.getElem?_eq_some_iff.1 hi).1];exact h.each i h' hi,h.apart⟩
theorem Lists.lt (h:Lists sz B e R w hs f):∀ k,ownsL hs k→B ≤ k∧k < w.heap.size:=fun k ⟨i,h',hi,hk⟩ => (h.each i h' hi).block k hk
theorem Lists.typed (h:Lists sz B e R w hs f):∀ k,ownsL hs k→∃ arr,w.heap[k]? = some (.cells arr e (0,0)):=fun k ⟨i,h',hi,hk⟩ => (h.each i h' hi).typed k hk
theorem Lists.step {k:Nat} {hd:Hd} {ys:List α} (h:Lists sz B e R w hs (upTo k f' f)) (hR:∀ cs x,R w cs x→R w' cs x) (hk:hs[k]? = some hd) (hf:Only (fun j => hd.l.ownBlock = some j) w w') (hy:OwnL sz B e R w' hd.l ys) (he:f' k = ys):Lists sz B e R w' hs (upTo (k + 1) f' f):=by
 refine ⟨fun i h' hi => ?_,h.apart⟩
 by_cases hik:i = k
 ·subst hik
  obtain rfl:=Option.some.inj (hi.symm.trans hk)
  unfold upTo
  rw [if_pos (by omega),he]
  exact hy
 ·have h1:=(h.each i h' hi).only hR hf fun j hj he => h.apart i k h' hd hi hk hik j hj he
  have h2:upTo (k + 1) f' f i = upTo k f' f i:=by
   unfold upTo
   by_cases h3:i < k
   ·rw [if_pos h3,if_pos (by omega)]
   ·rw [if_neg h3,if_neg (by omega)]
  rw [h2];exact h1
theorem held_at {A:Option Addr} {n cap:Nat} (h:SlRep 3 M RH w (.slice A n cap) hs) {k:Nat} (hk:k < hs.length):∃ b off l long m,A = some ⟨b,off,none⟩∧hs[k]? = some ⟨l,long,m⟩ ∧
    w.cell? ⟨b,off + k * 3,none⟩ = some l∧w.cell? ⟨b,off + k * 3 + 1,none⟩ = some long∧w.cell? ⟨b,off + k * 3 + 2,none⟩ = some (.int .i64 m)∧(∃ A n c,l = .slice A n c)∧∃ A n c,long = .slice A n c:=by
 obtain ⟨A1,cap1,hv,_,_,h3⟩:=h
 obtain ⟨b,off,cs,hA,hl,hc,rfl,h4,h5⟩:=h3 k _ (List.getElem?_eq_getElem hk)
 injection hv with hv _ _
 exact ⟨b,off,_,_,_,hv.trans hA,List.getElem?_eq_getElem hk,hc 0 _ rfl,hc 1 _ rfl,hc 2 _ rfl,h4,h5⟩
theorem mark_set {m:α} {xs:List α} {q:Nat} (hq:q < xs.length):(List.replicate q m ++ xs.drop q).set q m = List.replicate (q + 1) m ++ xs.drop (q + 1):=by
 rw [List.set_append_right _ _ (by simp)]
 simp only [List.length_replicate,Nat.sub_self]
 rw [List.drop_eq_getElem_cons hq,List.set_cons_zero,List.replicate_succ',List.append_assoc]
 rfl
theorem OwnL.arr {xs:List α} {A:Option Addr} {n c:Nat} (h:OwnL sz B e R w (.slice A n c) xs) {q:Nat} (hq:q < xs.length):∃ g arr,A = some ⟨g,0,none⟩∧n = xs.length∧w.heap[g]? = some (.cells arr e (0,0))∧q * sz + sz ≤ arr.size:=by
 obtain ⟨css,h1,h2,h3,h4⟩:=h
 rcases h4 with ⟨_,h5⟩ | ⟨g,cap,cur,hv,a2,a3,a4,a5,a6,a7⟩
 ·omega
 ·injection hv with hv1 hv2 hv3
  refine ⟨g,cur,hv1,hv2,a3,?_⟩
  rw [a6]
  have:=Nat.mul_le_mul_right sz (show q + 1 ≤ cap by omega)
  rwa [Nat.add_mul,Nat.one_mul] at this
end
structure BookAt (tb:TypeId) (w:World) (b:Nat) (n:Int) (vs:Nat→Value):Prop where
 blk:∃ arr,w.heap[b]? = some (.cells arr tb (0,0))∧arr.size = 32∧arr[0]? = some (.int .i64 n)∧∀ j,1 ≤ j→j < 32→arr[j]? = some (vs j)
def updV (vs:Nat→Value) (j:Nat) (v:Value) (i:Nat):Value:=if i = j then v else vs i
theorem updV_self {vs:Nat→Value} {j:Nat} {v:Value}:updV vs j v j = v:=by unfold updV;rw [if_pos rfl]
theorem updV_ne {vs:Nat→Value} {i j:Nat} {v:Value} (h:i ≠ j):updV vs j v i = vs i:=by unfold updV;rw [if_neg h]
theorem BookAt.only {tb:TypeId} {w w':World} {b:Nat} {n:Int} {vs:Nat→Value} {S:Nat→Prop} (h:BookAt tb w b n vs) (hf:Only S w w') (hn:¬ S b):BookAt tb w' b n vs:=by
 obtain ⟨arr,h0,h1⟩:=h.blk
 exact ⟨arr,hf.keeps h0 hn,h1⟩
theorem BookAt.cell {tb:TypeId} {w:World} {b:Nat} {n:Int} {vs:Nat→Value} (h:BookAt tb w b n vs) {j:Nat} (h1:1 ≤ j) (h2:j < 32):w.cell? ⟨b,j,none⟩ = some (vs j):=by
 obtain ⟨arr,h0,_,_,h3⟩:=h.blk
 exact cell_at h0 j _ (h3 j h1 h2)
theorem BookAt.num {tb:TypeId} {w:World} {b:Nat} {n:Int} {vs:Nat→Value} (h:BookAt tb w b n vs):w.cell? ⟨b,0,none⟩ = some (.int .i64 n):=by
 obtain ⟨arr,h0,_,h2,_⟩:=h.blk
 exact cell_at h0 0 _ h2
theorem BookAt.free {tb:TypeId} {w:World} {b:Nat} {n:Int} {vs:Nat→Value} (h:BookAt tb w b n vs) (j:Nat):w.frozen? ⟨b,j,none⟩ = false:=by
 obtain ⟨arr,h0,_⟩:=h.blk
 exact free_at h0 j
theorem BookAt.setN {tb:TypeId} {w:World} {b:Nat} {n m:Int} {vs:Nat→Value} (h:BookAt tb w b n vs):BookAt tb (w.setCell ⟨b,0,none⟩ (.int .i64 m)) b m vs:=by
 obtain ⟨arr,h0,h1,h2,h3⟩:=h.blk
 refine ⟨_,set_blk h0,by simpa using h1,by simp [h1],fun j hj hj2 => ?_⟩
 rw [Array.getElem?_setIfInBounds_ne (by omega)]
 exact h3 j hj hj2
theorem BookAt.setV {tb:TypeId} {w:World} {b k:Nat} {n:Int} {vs:Nat→Value} {v:Value} (h:BookAt tb w b n vs) (hk:1 ≤ k) (hk2:k < 32):BookAt tb (w.setCell ⟨b,k,none⟩ v) b n (updV vs k v):=by
 obtain ⟨arr,h0,h1,h2,h3⟩:=h.blk
 refine ⟨_,set_blk h0,by simpa using h1,by rw [Array.getElem?_setIfInBounds_ne (by omega)];exact h2,fun j hj hj2 => ?_⟩
 by_cases hjk:j = k
 ·subst hjk;rw [updV_self];simp [h1,hj2]
 ·rw [updV_ne hjk,Array.getElem?_setIfInBounds_ne (fun e => hjk e.symm)];exact h3 j hj hj2
theorem BookAt.lt {tb:TypeId} {w:World} {b:Nat} {n:Int} {vs:Nat→Value} (h:BookAt tb w b n vs):b < w.heap.size:=lt_of_cell h.num
section
variable {α:Type} {sz B M:Nat} {e:TypeId} {R:World→List Value→α→Prop} {w w':World} {S:Nat→Prop}
theorem SlRep.onlyB {v:Value} {xs:List α} (h:SlRep sz M R w v xs) (hR:∀ cs x,R w cs x→R w' cs x) (hf:Only S w w') (hn:∀ k,v.ownBlock = some k→¬ S k):SlRep sz M R w' v xs:=by
 obtain ⟨A,cap,rfl,h1,h2,h3⟩:=h
 refine ⟨A,cap,rfl,h1,h2,fun i x hx => ?_⟩
 obtain ⟨b,off,cs,hA,hl,hc,hr⟩:=h3 i x hx
 exact ⟨b,off,cs,hA,hl,fun j c hj => hf.cell (hc j c hj) (hn b (by rw [hA];rfl)),hR _ _ hr⟩
theorem OwnL.at0 {A:Option Addr} {n c:Nat} {xs:List α} (h:OwnL sz B e R w (.slice A n c) xs):∀ a,A = some a→a = ⟨a.block,0,none⟩:=by
 obtain ⟨css,h1,h2,h3,h4⟩:=h
 intro a ha
 rcases h4 with ⟨h4,_⟩ | ⟨g,cap,cur,hv,_⟩
 ·rw [ha] at h4;cases h4
 ·injection hv with hv _ _
  rw [ha] at hv
  injection hv with hv
  rw [hv]
theorem append_keep {L v':Value} {A:Option Addr} {n c:Nat} {xs ys:List α} {y:α} (hR:∀ cs x,R w cs x→R w' cs x) (hl:SlRep sz maxLen R w (.slice A n c) ys) (h0:∀ a,A = some a→a = ⟨a.block,0,none⟩)
    (hx:xs.take n = ys) (hn:n ≤ xs.length) (hg:w.grownBy w' L.ownBlock) (hv:OwnL sz B e R w' v' (xs ++ [y])) (hb:v'.ownBlock = L.ownBlock∨v'.ownBlock = some w.heap.size∧w.grownBy w' none):SlRep sz maxLen R w' (.slice A n c) ys:=by
 by_cases hs:L.ownBlock = (Value.slice A n c).ownBlock
 ·rcases hb with hb | ⟨_,hb⟩
  ·cases A with
   | none =>
    obtain ⟨A1,c1,e1,h1,h2,h3⟩:=hl
    refine ⟨A1,c1,e1,h1,h2,fun i x hx => ?_⟩
    obtain ⟨b,off,cs,hA,_⟩:=h3 i x hx
    injection e1 with e1 _ _
    rw [hA] at e1;cases e1
   | some a =>
    obtain ⟨A1,c1,e1,h1,h2⟩:=hv.rep.form
    have h3:=hv.rep
    obtain ⟨B1,c2,e2,h4,h5,_⟩:=hl
    have ea:=h0 a rfl
    have hA1:A1 = some a:=by
     rw [hs,e1] at hb
     cases A1 with
     | none => cases hb
     | some a1 =>
      have h6:=(e1 ▸ hv).at0 a1 rfl
      have h7:a1.block = a.block:=by injection hb
      rw [h6,ea,h7]
    rw [e1,hA1] at h3
    injection e2 with e2 e3 e4
    have h8:=SlRep.prefix h3 (m:=n) (cap':=c) (M':=maxLen) (by simp;omega) (by omega) (by omega)
    rw [List.take_append_of_le_length hn,hx] at h8
    exact h8
  ·exact hl.onlyB hR (Only.grown (S:=fun _ => False) hb (fun k hk => by cases hk)) (fun k _ h => h)
 ·exact hl.onlyB hR (Only.grown (S:=fun k => L.ownBlock = some k) hg (fun k hk => hk)) (fun k hk h => hs (h.trans hk.symm))
end
theorem wpList_append1 {P:Program} {α:Type} {sz B:Nat} {e e':TypeId} {R:World→List Value→α→Prop} {ops:Array Oper} {rest:List Oper} {Q:Exit→Act→World→Prop} {o:Oper} {a:Act} {t:TypeId} {z:Value} {bytes:Nat} {w:World} {L:Value} {xs:List α} (hgd:Region.wanted o (yielded ops a.tmps) = true) (s x:Operand)
    (ho:o.op = .call { callee:=.builtin .append,args:=#[s,x],argTypes:=#[t,t] }) (ht:P.underlying t = some (.slice e)) (hinfo:(P.info? e).map (fun i => (i.zero,i.size,i.bytes)) = some (some z,sz,bytes)) (hzs:z.cells.size = sz) (hsz:0 < sz)
    (hR1:∀ w cs x,R w cs x→∀ u ∈ cs,u.oneCell' = true) (hRk:∀ w' cs (x:α),R w cs x→w.grownBy w' L.ownBlock→R w' cs x) {b:Nat} {cs:List Value} {y:α}
    (hs:a.eval s = L) (hx:a.eval x = .slice (some ⟨b,0,none⟩) 1 1) (h:OwnL sz B e R w L xs) (hb:w.heap[b]? = some (Obj.cells cs.toArray e' (0,0))) (hcl:cs.length = sz) (hy:R w cs y) (h63:xs.length + 1 ≤ maxLen) (hbytes:(xs.length + 1) * bytes ≤ 140737488355328) (hbase:B ≤ w.heap.size)
    (k:∀ v' w',OwnL sz B e R w' v' (xs ++ [y])→w.grownBy w' L.ownBlock→(v'.ownBlock = L.ownBlock∨v'.ownBlock = some w.heap.size∧w.grownBy w' none)→wpList P ops Q rest (a.put o.dst v') w'):wpList P ops Q (o :: rest) a w:=by
 obtain ⟨i,hi,hz,hs',hby⟩:=info_parts hinfo
 obtain ⟨v',w',hr,h2,h3,h4⟩:=run_append1 (P:=P) t o.type i z bytes ht hi hz hs' hby hzs hsz hR1 hRk h hb hcl hy h63 hbytes hbase
 refine wpList_of_run hgd ?_ (k v' w' h2 h3 h4)
 unfold execOp
 simp only [ho,resolve,invoke,builtin,Sem.run_bind,Sem.run_pure,Result.andThen_ok,List.map_toArray,List.map_cons,List.map_nil,hs,hx,hr]
structure Grow {α:Type} (sz B:Nat) (e th:TypeId) (R:World→List Value→α→Prop) (mk:Int→α) (w:World) (v:Value) (hs:List Hd) (ns:Nat→Nat) (k:Nat) (W:World) (hs':List Hd):Prop where
 held:OwnL 3 B th RH W v hs'
 len:hs'.length = hs.length
 rest:∀ (i:Nat),k ≤ i→hs'[i]? = hs[i]?
 done:∀ (i:Nat) (h:Hd),i < k→hs[i]? = some h→∃ L,hs'[i]? = some ⟨h.l,L,h.n⟩∧SlRep sz maxLen R W h.l (List.replicate (ns i) (mk h.n))∧SlRep sz maxLen R W L (List.replicate (ns i + 70) (mk h.n))∧∀ x,L.ownBlock = some x→h.l.ownBlock = some x∨w.heap.size ≤ x
 todo:∀ (i:Nat) (h:Hd),k ≤ i→hs[i]? = some h→OwnL sz B e R W h.l (List.replicate (ns i) (mk h.n))
 only:Only (fun x => ownsL hs x∨v.ownBlock = some x) w W
theorem Grow.step {α:Type} {sz B:Nat} {e th:TypeId} {R:World→List Value→α→Prop} {mk:Int→α} {w:World} {v:Value} {hs hs':List Hd} {ns:Nat→Nat} {k:Nat} {W w1 w2:World} {hd:Hd} {L:Value} (h:Grow sz B e th R mk w v hs ns k W hs') (hR1:∀ cs x,R W cs x→R w1 cs x) (hR2:∀ cs x,R w1 cs x→R w2 cs x)
    (apart:∀ (i j:Nat) (h k:Hd),hs[i]? = some h→hs[j]? = some k→i ≠ j→∀ x,h.l.ownBlock = some x→k.l.ownBlock ≠ some x) (hlow:∀ x,ownsL hs x→x < w.heap.size) (hv:∀ x,v.ownBlock = some x→x < w.heap.size∧¬ ownsL hs x)
    (hk:hs[k]? = some hd) (O1:Only (fun j => hd.l.ownBlock = some j) W w1) (hl:SlRep sz maxLen R w1 hd.l (List.replicate (ns k) (mk hd.n))) (hL:SlRep sz maxLen R w1 L (List.replicate (ns k + 70) (mk hd.n))) (hLb:∀ x,L.ownBlock = some x→hd.l.ownBlock = some x∨W.heap.size ≤ x)
    (O2:Only (fun j => v.ownBlock = some j) w1 w2) (hH:OwnL 3 B th RH w2 v (hs'.set k ⟨hd.l,L,hd.n⟩)):Grow sz B e th R mk w v hs ns (k + 1) w2 (hs'.set k ⟨hd.l,L,hd.n⟩):=by
 have hkl:k < hs'.length:=by rw [h.len];exact (List.getElem?_eq_some_iff.1 hk).1
 have hWs:=h.only.size
 refine ⟨hH,by rw [List.length_set];exact h.len,fun i hi => by rw [List.getElem?_set_ne (by omega)];exact h.rest i (by omega),fun i h' hi hi' => ?_,fun i h' hi hi' => ?_,?_⟩
 ·by_cases hik:i = k
  ·subst hik
   obtain rfl:=Option.some.inj (hi'.symm.trans hk)
   refine ⟨L,by rw [List.getElem?_set_self hkl],hl.onlyB hR2 O2 fun x hx hvx => (hv x hvx).2 ⟨i,h',hi',hx⟩,hL.onlyB hR2 O2 fun x hx hvx => ?_,fun x hx => (hLb x hx).imp id fun h => by omega⟩
   rcases hLb x hx with h1 | h1
   ·exact (hv x hvx).2 ⟨i,h',hi',h1⟩
   ·have:=(hv x hvx).1;omega
  ·obtain ⟨L',e1,e2,e3,e4⟩:=h.done i h' (by omega) hi'
   refine ⟨L',by rw [List.getElem?_set_ne (fun e => hik e.symm)];exact e1,?_,?_,e4⟩
   ·exact (e2.onlyB hR1 O1 fun x hx hx2 => apart i k h' hd hi' hk hik x hx hx2).onlyB hR2 O2 fun x hx hvx => (hv x hvx).2 ⟨i,h',hi',hx⟩
   ·refine (e3.onlyB hR1 O1 fun x hx hx2 => ?_).onlyB hR2 O2 fun x hx hvx => ?_
    ·rcases e4 x hx with h1 | h1
     ·exact apart i k h' hd hi' hk hik x h1 hx2
     ·have:=hlow x ⟨k,hd,hk,hx2⟩;omega
    ·rcases e4 x hx with h1 | h1
     ·exact (hv x hvx).2 ⟨i,h',hi',h1⟩
     ·have:=(hv x hvx).1;omega
 ·exact ((h.todo i h' (by omega) hi').only hR1 O1 fun x hx hx2 => apart i k h' hd hi' hk (by omega) x hx hx2).only hR2 O2 fun x hx hvx => (hv x hvx).2 ⟨i,h',hi',hx⟩
 ·exact (h.only.trans (O1.mono fun x _ hx => .inl ⟨k,hd,hk,hx⟩)).trans (O2.mono fun x _ hx => .inr hx)
def Looks {α:Type} (sz:Nat) (R:World→List Value→α→Prop) (mk:Int→α) (ns:Nat→Nat) (W:World) (hs':List Hd):Prop :=
 ∀ (i:Nat) (h:Hd),hs'[i]? = some h→SlRep sz maxLen R W h.l (List.replicate (ns i) (mk h.n))∧SlRep sz maxLen R W h.long (List.replicate (ns i + 70) (mk h.n))
theorem Grow.looks {α:Type} {sz B:Nat} {e th:TypeId} {R:World→List Value→α→Prop} {mk:Int→α} {w:World} {v:Value} {hs hs':List Hd} {ns:Nat→Nat} {W W':World} {S:Nat→Prop} (h:Grow sz B e th R mk w v hs ns hs.length W hs') (hR:∀ cs x,R W cs x→R W' cs x)
    (hf:Only S W W') (hd:∀ k,S k→k < w.heap.size∧¬ ownsL hs k∧v.ownBlock ≠ some k):OwnL 3 B th RH W' v hs'∧Looks sz R mk ns W' hs':=by
 refine ⟨h.held.only (RH.same _ _) hf fun k hk hs => (hd k hs).2.2 hk,fun i h' hi => ?_⟩
 have hl:i < hs.length:=by rw [← h.len];exact (List.getElem?_eq_some_iff.1 hi).1
 obtain ⟨L,e1,e2,e3,e4⟩:=h.done i hs[i] hl (List.getElem?_eq_getElem hl)
 rw [hi] at e1
 obtain rfl:=Option.some.inj e1
 refine ⟨e2.onlyB hR hf fun k hk hs' => (hd k hs').2.1 ⟨i,_,List.getElem?_eq_getElem hl,hk⟩,e3.onlyB hR hf fun k hk hs' => ?_⟩
 rcases e4 k hk with h5 | h5
 ·exact (hd k hs').2.1 ⟨i,_,List.getElem?_eq_getElem hl,h5⟩
 ·have:=(hd k hs').1;omega
theorem Looks.fut {α:Type} {sz:Nat} {R:World→List Value→α→Prop} {mk:Int→α} {ns:Nat→Nat} {W W':World} {hs':List Hd} (h:Looks sz R mk ns W hs') (hR:Stays R) (hf:Fut W W'):Looks sz R mk ns W' hs':=fun i h' hi => ⟨(h i h' hi).1.fut hR hf,(h i h' hi).2.fut hR hf⟩
def Ty (w:World) (t:TypeId) (k:Nat):Prop:=∃ arr,w.heap[k]? = some (.cells arr t (0,0))
theorem Ty.ne {w:World} {t t':TypeId} {k k':Nat} (h:Ty w t k) (h':Ty w t' k') (hn:t ≠ t'):k ≠ k':=fun e => by
 obtain ⟨a,h⟩:=h
 obtain ⟨a',h'⟩:=h'
 rw [e,h'] at h
 injection h with h
 injection h with _ h
 exact hn h.symm
end Go.Proofs.YtobabnpllokkaaaGreatDoor
namespace Go.Proofs.YtobabnpllokkaaaGreatDoor
open Go.RowKit Go.WideMaps
theorem wpList_storeW {P:Program} {e:TypeId} {cs:List Value} {ops:Array Oper} {rest:List Oper} {Q:Exit→Act→World→Prop} {op:Oper} {a:Act} {w:World} {b off:Nat} {t:TypeId} {arr:Array Value} (hgd:Region.wanted op (yielded ops a.tmps) = true) (x z:Operand) (ho:op.op = .store e x z) (hx:a.eval x = .pointer (some ⟨b,off,none⟩)) (hz:a.eval z = .agg cs.toArray) (hb:w.heap[b]? = some (.cells arr t (0,0))) (hs:off + cs.length ≤ arr.size) (hi:(P.info? e).map (·.size) = some cs.length) (hone:∀ v ∈ cs,v.oneCell' = true)
    (h:∀ arr':Array Value,(∀ j,arr'[j]? = if off ≤ j∧j < off + cs.length then cs[j - off]? else arr[j]?)→wpList P ops Q rest (a.put op.dst undef) (w.putObj b (.cells arr' t (0,0)))):wpList P ops Q (op :: rest) a w:=by
 have h1:=run_storeVar_mid (P:=P) w b off e cs.toArray (fun j hj => by
  have hj':off + j < arr.size:=by simp at hj;omega
  refine ⟨?_,?_⟩
  ·simp [World.cell?,hb,hj']
  ·simp [World.frozen?,hb]) (by rw [hi];simp) (all_oneCell_toArray hone)
 obtain ⟨arr',h2,h3,h4⟩:=setCells_put cs off w arr hb
 simp only at h1
 rw [h2] at h1
 refine wpList_of_skip hgd ?_ (h arr' fun j => ?_)
 ·unfold execOp
  simp only [ho,hx,hz,Instr.storeAt,Instr.sureAddr,Sem.run_bind,Sem.run_pure,Result.andThen_ok,h1]
 ·rw [h4]
  by_cases hj:off ≤ j∧j < off + cs.length
  ·rw [if_pos hj,if_pos (by omega)]
  ·rw [if_neg hj,if_neg (by omega)]
theorem mark_cong {α:Type} {mk:Int→α} {hs:List Hd} {f:Nat→List α} {i:Nat} (hi:i < hs.length):markF mk hs f i = List.replicate (f i).length (mk (hs.getD i ⟨.slice none 0 0,.slice none 0 0,0⟩).n):=by
 have h1:hs[i]? = some hs[i]:=List.getElem?_eq_getElem hi
 rw [markF_at h1,List.getD_eq_getElem?_getD,h1]
 rfl
def snocF {α:Type} (f:Nat→List α) (m:Nat) (ys:List α) (i:Nat):List α:=if i = m then ys else f i
theorem Lists.snoc {α:Type} {sz B:Nat} {e:TypeId} {R:World→List Value→α→Prop} {w:World} {hs:List Hd} {f:Nat→List α} {h:Hd} {ys:List α} (H:Lists sz B e R w hs f) (hy:OwnL sz B e R w h.l ys) (hap:∀ k,h.l.ownBlock = some k→¬ ownsL hs k):Lists sz B e R w (hs ++ [h]) (snocF f hs.length ys):=by
 have at':∀ (i:Nat) (k:Hd),(hs ++ [h])[i]? = some k→(i < hs.length∧hs[i]? = some k)∨(i = hs.length∧k = h):=fun i k hi => by
  by_cases hl:i < hs.length
  ·rw [List.getElem?_append_left hl] at hi
   exact .inl ⟨hl,hi⟩
  ·rw [List.getElem?_append_right (by omega)] at hi
   have:=(List.getElem?_eq_some_iff.1 hi).1
   have e:i = hs.length:=by simp at this;omega
   subst e
   simp at hi
   exact .inr ⟨rfl,hi.symm⟩
 refine ⟨fun i k hi => ?_,fun i j k l hi hj hij x hx hy' => ?_⟩
 ·unfold snocF
  rcases at' i k hi with ⟨h1,h2⟩ | ⟨rfl,rfl⟩
  ·rw [if_neg (by omega)];exact H.each i k h2
  ·rw [if_pos rfl];exact hy
 ·rcases at' i k hi with ⟨h1,h2⟩ | ⟨rfl,rfl⟩
  ·rcases at' j l hj with ⟨h3,h4⟩ | ⟨rfl,rfl⟩
   ·exact H.apart i j k l h2 h4 hij x hx hy'
   ·exact hap x hy' ⟨i,k,h2,hx⟩
  ·rcases at' j l hj with ⟨h3,h4⟩ | ⟨rfl,rfl⟩
   ·exact hap x hx ⟨j,l,h4,hy'⟩
   ·exact hij rfl
theorem ownsL_snoc {hs:List Hd} {h:Hd} {k:Nat}:ownsL (hs ++ [h]) k↔ownsL hs k∨h.l.ownBlock = some k:=by
 constructor
 ·rintro ⟨i,x,hi,hk⟩
  by_cases hl:i < hs.length
  ·rw [List.getElem?_append_left hl] at hi
   exact .inl ⟨i,x,hi,hk⟩
  ·rw [List.getElem?_append_right (by omega)] at hi
   have:=(List.getElem?_eq_some_iff.1 hi).1
   have e:i = hs.length:=by simp at this;omega
   subst e
   simp at hi
   subst hi
   exact .inr hk
 ·rintro (⟨i,x,hi,hk⟩ | hk)
  ·have hl:=(List.getElem?_eq_some_iff.1 hi).1
   exact ⟨i,x,by rw [List.getElem?_append_left hl];exact hi,hk⟩
  ·exact ⟨hs.length,h,by simp,hk⟩
theorem ownsL_nil {k:Nat}:¬ ownsL [] k:=fun ⟨i,x,hi,_⟩ => by simp at hi
theorem Lists.nil {α:Type} {sz B:Nat} {e:TypeId} {R:World→List Value→α→Prop} {w:World} {f:Nat→List α}:Lists sz B e R w [] f:=⟨fun i h hi => by simp at hi,fun i j h k hi => by simp at hi⟩
theorem Grow.num {α:Type} {sz B9:Nat} {e th:TypeId} {R:World→List Value→α→Prop} {mk:Int→α} {w9 W9:World} {v:Value} {hs hs':List Hd} {ns:Nat→Nat} (h:Grow sz B9 e th R mk w9 v hs ns hs.length W9 hs') {P:Int→Prop} (hP:∀ (i:Nat) (x:Hd),hs[i]? = some x→P x.n) (i:Nat) (x:Hd) (hi:hs'[i]? = some x):P x.n:=by
 have hl:i < hs.length:=by rw [← h.len];exact (List.getElem?_eq_some_iff.1 hi).1
 obtain ⟨L,e1,_⟩:=h.done i hs[i] hl (List.getElem?_eq_getElem hl)
 rw [hi] at e1
 obtain rfl:=Option.some.inj e1
 exact hP i hs[i] (List.getElem?_eq_getElem hl)
end Go.Proofs.YtobabnpllokkaaaGreatDoor
namespace Go.Proofs.YtobabnpllokkaaaGreatDoor
open Go.RowKit
def wordN (n:Int):ByteArray:=⟨#[35]⟩ ++ ⟨(Lib.itoa n).toArray⟩
set_option maxHeartbeats 400000 in
theorem wordN_any (n:Int) (h0:0 ≤ n) (h1:n ≤ 1000000000) (w:World) (hP:Pows w):Calls Tryz.prog 89 #[.int .i64 n] w fun e w' => e = .returned (.string (wordN n))∧Fut w w':=by
 have HI:Hid (Calls Tryz.prog 205 #[.int .i64 n] w fun e w' => e = .returned (.string ⟨(Lib.itoa n).toArray⟩)∧Fut w w') :=
  Lib.hid ((Tryz.strconv_Itoa n (by omega) (by omega) w hP).mono fun e w' ⟨h,k,os,hw⟩ => ⟨h,hw ▸ fut_grow w k os⟩)
 have hsz:(⟨(Lib.itoa n).toArray⟩:ByteArray).size ≤ 30:=by
  rw [Lib.size_eq];exact itoa_len n (by omega)
 unfold wordN
 generalize (⟨(Lib.itoa n).toArray⟩:ByteArray) = t at HI hsz ⊢
 have h1:(⟨#[35]⟩:ByteArray).size = 1:=rfl
 go_enter Tryz.func89,Tryz.ntmps89
 go_wp2_with fail
 refine HI.out.mono ?_
 rintro e w1 ⟨rfl,h1⟩
 go_wp2
 go_ret
 exact ⟨rfl,h1⟩
end Go.Proofs.YtobabnpllokkaaaGreatDoor
namespace Go.Proofs.YtobabnpllokkaaaGreatDoor
open Go.RowKit Go.WideMaps
theorem book_new {w:World} {b:Nat} {arr:Array Value} (h:w.heap[b]? = some (.cells arr 65 (0,0))) (ha:arr.toList = .int .i64 0 :: List.replicate 31 (.slice none 0 0)):BookAt 65 w b 0 (fun _ => .slice none 0 0):=by
 refine ⟨arr,h,?_,?_,fun j h1 h2 => ?_⟩
 ·have:=congrArg List.length ha;simpa using this
 ·rw [← Array.getElem?_toList,ha];rfl
 ·obtain ⟨i,rfl⟩:∃ i,j = i + 1:=⟨j - 1,by omega⟩
  rw [← Array.getElem?_toList,ha,List.getElem?_cons_succ,List.getElem?_replicate,if_pos (by omega)]
end Go.Proofs.YtobabnpllokkaaaGreatDoor
