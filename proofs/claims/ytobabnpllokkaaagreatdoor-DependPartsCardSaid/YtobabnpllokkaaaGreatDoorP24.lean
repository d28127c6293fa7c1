/- Parts. -/
import Derived.Test.YtobabnpllokkaaaGreatDoorP23
import Derived.Test.YtobabnpllokkaaaGreatDoorP02
import Derived.Test.YtobabnpllokkaaaGreatDoorP04
set_option linter.unusedSimpArgs false
set_option linter.unusedVariables false
namespace Go.Proofs.YtobabnpllokkaaaGreatDoor
open Go.RowKit
theorem RH.same (w w':World) (cs:List Value) (x:Hd) (h:RH w cs x):RH w' cs x:=h
structure Lists {α:Type} (sz B:Nat) (e:TypeId) (R:World→List Value→α→Prop) (w:World) (hs:List Hd) (f:Nat→List α):Prop where
 each:∀ (i:Nat) (h:Hd),hs[i]?=some h→OwnL sz B e R w h.l (f i)
 apart:∀ (i j:Nat) (h k:Hd),hs[i]?=some h→hs[j]?=some k→i≠j→∀ x,h.l.ownBlock=some x→k.l.ownBlock≠some x
def ownsL (hs:List Hd) (k:Nat):Prop:=∃ (i:Nat) (h:Hd),hs[i]?=some h∧h.l.ownBlock=some k
def markF {α:Type} (mk:Int→α) (hs:List Hd) (f:Nat→List α) (i:Nat):List α:=match hs[i]? with
 | some h => List.replicate (f i).length (mk h.n)
 | none => f i
def upTo {α:Type} (k:Nat) (f g:Nat→List α) (i:Nat):List α:=if i<k then f i else g i
theorem markF_at {α:Type} {mk:Int→α} {hs:List Hd} {f:Nat→List α} {i:Nat} {h:Hd} (hi:hs[i]?=some h):markF mk hs f i=List.replicate (f i).length (mk h.n):=by unfold markF;rw [hi]
theorem set1_spec {arr:Array Value} {q:Nat} {v:Value} (hq:q<arr.size) (j:Nat):(arr.setIfInBounds q v)[j]?=if q * 1≤j∧j<q * 1+1 then [v][j - q * 1]? else arr[j]?:=by
 rw [Nat.mul_one]
 by_cases h:q=j
 ·subst h;rw [if_pos (by omega)];simp [hq]
 ·rw [if_neg (by omega),Array.getElem?_setIfInBounds_ne h]
theorem set_held {arr:Array Value} {k:Nat} {l L:Value} {n:Int} (h0:arr[k * 3]?=some l) (h2:arr[k * 3+2]?=some (.int .i64 n)) (j:Nat):(arr.setIfInBounds (k * 3+1) L)[j]?=if k * 3≤j∧j<k * 3+3 then (Hd.cells ⟨l,L,n⟩)[j - k * 3]? else arr[j]?:=by
 have hs:=(Array.getElem?_eq_some_iff.1 h2).1
 by_cases hj:k * 3≤j∧j<k * 3+3
 ·rw [if_pos hj];rcases (show j=k * 3∨j=k * 3+1∨j=k * 3+2 by omega) with rfl|rfl|rfl
  ·rw [Array.getElem?_setIfInBounds_ne (by omega),h0,Nat.sub_self];rfl
  ·rw [show k * 3+1 - k * 3=1 by omega];simp [Hd.cells,show k * 3+1<arr.size by omega]
  ·rw [Array.getElem?_setIfInBounds_ne (by omega),h2,show k * 3+2 - k * 3=2 by omega];rfl
 ·rw [if_neg hj,Array.getElem?_setIfInBounds_ne (by omega)]
theorem arr_of_cell {w:World} {g i:Nat} {arr:Array Value} {t:TypeId} {fr:Nat×Nat} {v:Value} (hg:w.heap[g]?=some (.cells arr t fr)) (hc:w.cell? ⟨g,i,none⟩=some v):arr[i]?=some v:=by
 simpa [World.cell?,hg] using hc
section
variable {α:Type} {sz B M:Nat} {e:TypeId} {R:World→List Value→α→Prop} {w w':World} {hs:List Hd} {f f':Nat→List α} {S:Nat→Prop}
theorem Lists.only (h:Lists sz B e R w hs f) (hR:∀ cs x,R w cs x→R w' cs x) (hf:Only S w w') (hd:∀ k,ownsL hs k→¬ S k):Lists sz B e R w' hs f :=
 ⟨fun i h' hi => (h.each i h' hi).only hR hf fun k hk => hd k ⟨i,h',hi,hk⟩,h.apart⟩
theorem Lists.cong (h:Lists sz B e R w hs f) (he:∀ i,i<hs.length→f i=f' i):Lists sz B e R w hs f' :=
 ⟨fun i h' hi => by rw [← he i (List.getElem?_eq_some_iff.1 hi).1];exact h.each i h' hi,h.apart⟩
theorem Lists.lt (h:Lists sz B e R w hs f):∀ k,ownsL hs k→B≤k∧k<w.heap.size:=fun k ⟨i,h',hi,hk⟩ => (h.each i h' hi).block k hk
theorem Lists.typed (h:Lists sz B e R w hs f):∀ k,ownsL hs k→∃ arr,w.heap[k]?=some (.cells arr e (0,0)):=fun k ⟨i,h',hi,hk⟩ => (h.each i h' hi).typed k hk
theorem Lists.step {k:Nat} {hd:Hd} {ys:List α} (h:Lists sz B e R w hs (upTo k f' f)) (hR:∀ cs x,R w cs x→R w' cs x) (hk:hs[k]?=some hd) (hf:Only (fun j => hd.l.ownBlock=some j) w w') (hy:OwnL sz B e R w' hd.l ys) (he:f' k=ys):Lists sz B e R w' hs (upTo (k+1) f' f):=by
 refine ⟨fun i h' hi => ?_,h.apart⟩
 by_cases hik:i=k
 ·subst hik;obtain rfl:=Option.some.inj (hi.symm.trans hk);unfold upTo;rw [if_pos (by omega),he];exact hy
 ·have h1:=(h.each i h' hi).only hR hf fun j hj he => h.apart i k h' hd hi hk hik j hj he
  have h2:upTo (k+1) f' f i=upTo k f' f i:=by
   unfold upTo
   by_cases h3:i<k
   ·rw [if_pos h3,if_pos (by omega)]
   ·rw [if_neg h3,if_neg (by omega)]
  rw [h2];exact h1
theorem held_at {A:Option Addr} {n cap:Nat} (h:SlRep 3 M RH w (.slice A n cap) hs) {k:Nat} (hk:k<hs.length):∃ b off l long m,A=some ⟨b,off,none⟩∧hs[k]?=some ⟨l,long,m⟩ ∧
    w.cell? ⟨b,off+k * 3,none⟩=some l∧w.cell? ⟨b,off+k * 3+1,none⟩=some long∧w.cell? ⟨b,off+k * 3+2,none⟩=some (.int .i64 m)∧(∃ A n c,l = .slice A n c)∧∃ A n c,long = .slice A n c:=by
 obtain ⟨A1,cap1,hv,_,_,h3⟩:=h;obtain ⟨b,off,cs,hA,hl,hc,rfl,h4,h5⟩:=h3 k _ (List.getElem?_eq_getElem hk);injection hv with hv _ _
 exact ⟨b,off,_,_,_,hv.trans hA,List.getElem?_eq_getElem hk,hc 0 _ rfl,hc 1 _ rfl,hc 2 _ rfl,h4,h5⟩
theorem mark_set {m:α} {xs:List α} {q:Nat} (hq:q<xs.length):(List.replicate q m++xs.drop q).set q m=List.replicate (q+1) m++xs.drop (q+1):=by
 rw [List.set_append_right _ _ (by simp)];simp only [List.length_replicate,Nat.sub_self];rw [List.drop_eq_getElem_cons hq,List.set_cons_zero,List.replicate_succ',List.append_assoc];rfl
theorem OwnL.arr {xs:List α} {A:Option Addr} {n c:Nat} (h:OwnL sz B e R w (.slice A n c) xs) {q:Nat} (hq:q<xs.length):∃ g arr,A=some ⟨g,0,none⟩∧n=xs.length∧w.heap[g]?=some (.cells arr e (0,0))∧q * sz+sz≤arr.size:=by
 obtain ⟨css,h1,h2,h3,h4⟩:=h;rcases h4 with ⟨_,h5⟩|⟨g,cap,cur,hv,a2,a3,a4,a5,a6,a7⟩
 ·omega
 ·injection hv with hv1 hv2 hv3
  refine ⟨g,cur,hv1,hv2,a3,?_⟩;rw [a6];have:=Nat.mul_le_mul_right sz (show q+1≤cap by omega)
  rwa [Nat.add_mul,Nat.one_mul] at this
end
structure BookAt (tb:TypeId) (w:World) (b:Nat) (n:Int) (vs:Nat→Value):Prop where
 blk:∃ arr,w.heap[b]?=some (.cells arr tb (0,0))∧arr.size=32∧arr[0]?=some (.int .i64 n)∧∀ j,1≤j→j<32→arr[j]?=some (vs j)
def updV (vs:Nat→Value) (j:Nat) (v:Value) (i:Nat):Value:=if i=j then v else vs i
theorem updV_self {vs:Nat→Value} {j:Nat} {v:Value}:updV vs j v j=v:=by unfold updV;rw [if_pos rfl]
theorem updV_ne {vs:Nat→Value} {i j:Nat} {v:Value} (h:i≠j):updV vs j v i=vs i:=by unfold updV;rw [if_neg h]
theorem BookAt.only {tb:TypeId} {w w':World} {b:Nat} {n:Int} {vs:Nat→Value} {S:Nat→Prop} (h:BookAt tb w b n vs) (hf:Only S w w') (hn:¬ S b):BookAt tb w' b n vs:=by
 obtain ⟨arr,h0,h1⟩:=h.blk;exact ⟨arr,hf.keeps h0 hn,h1⟩
theorem BookAt.cell {tb:TypeId} {w:World} {b:Nat} {n:Int} {vs:Nat→Value} (h:BookAt tb w b n vs) {j:Nat} (h1:1≤j) (h2:j<32):w.cell? ⟨b,j,none⟩=some (vs j):=by
 obtain ⟨arr,h0,_,_,h3⟩:=h.blk;exact cell_at h0 j _ (h3 j h1 h2)
theorem BookAt.num {tb:TypeId} {w:World} {b:Nat} {n:Int} {vs:Nat→Value} (h:BookAt tb w b n vs):w.cell? ⟨b,0,none⟩=some (.int .i64 n):=by
 obtain ⟨arr,h0,_,h2,_⟩:=h.blk;exact cell_at h0 0 _ h2
theorem BookAt.free {tb:TypeId} {w:World} {b:Nat} {n:Int} {vs:Nat→Value} (h:BookAt tb w b n vs) (j:Nat):w.frozen? ⟨b,j,none⟩=false:=by
 obtain ⟨arr,h0,_⟩:=h.blk;exact free_at h0 j
theorem BookAt.setN {tb:TypeId} {w:World} {b:Nat} {n m:Int} {vs:Nat→Value} (h:BookAt tb w b n vs):BookAt tb (w.setCell ⟨b,0,none⟩ (.int .i64 m)) b m vs:=by
 obtain ⟨arr,h0,h1,h2,h3⟩:=h.blk;refine ⟨_,set_blk h0,by simpa using h1,by simp [h1],fun j hj hj2 => ?_⟩;rw [Array.getElem?_setIfInBounds_ne (by omega)];exact h3 j hj hj2
theorem BookAt.setV {tb:TypeId} {w:World} {b k:Nat} {n:Int} {vs:Nat→Value} {v:Value} (h:BookAt tb w b n vs) (hk:1≤k) (hk2:k<32):BookAt tb (w.setCell ⟨b,k,none⟩ v) b n (updV vs k v):=by
 obtain ⟨arr,h0,h1,h2,h3⟩:=h.blk;refine ⟨_,set_blk h0,by simpa using h1,by rw [Array.getElem?_setIfInBounds_ne (by omega)];exact h2,fun j hj hj2 => ?_⟩
 by_cases hjk:j=k
 ·subst hjk;rw [updV_self];simp [h1,hj2]
 ·rw [updV_ne hjk,Array.getElem?_setIfInBounds_ne (fun e => hjk e.symm)];exact h3 j hj hj2
theorem BookAt.lt {tb:TypeId} {w:World} {b:Nat} {n:Int} {vs:Nat→Value} (h:BookAt tb w b n vs):b<w.heap.size:=lt_of_cell h.num
section
variable {α:Type} {sz B M:Nat} {e:TypeId} {R:World→List Value→α→Prop} {w w':World} {S:Nat→Prop}
theorem SlRep.onlyB {v:Value} {xs:List α} (h:SlRep sz M R w v xs) (hR:∀ cs x,R w cs x→R w' cs x) (hf:Only S w w') (hn:∀ k,v.ownBlock=some k→¬ S k):SlRep sz M R w' v xs:=by
 obtain ⟨A,cap,rfl,h1,h2,h3⟩:=h;refine ⟨A,cap,rfl,h1,h2,fun i x hx => ?_⟩;obtain ⟨b,off,cs,hA,hl,hc,hr⟩:=h3 i x hx;exact ⟨b,off,cs,hA,hl,fun j c hj => hf.cell (hc j c hj) (hn b (by rw [hA];rfl)),hR _ _ hr⟩
theorem OwnL.at0 {A:Option Addr} {n c:Nat} {xs:List α} (h:OwnL sz B e R w (.slice A n c) xs):∀ a,A=some a→a=⟨a.block,0,none⟩:=by
 obtain ⟨css,h1,h2,h3,h4⟩:=h;intro a ha;rcases h4 with ⟨h4,_⟩|⟨g,cap,cur,hv,_⟩
 ·rw [ha] at h4;cases h4
 ·injection hv with hv _ _
  rw [ha] at hv;injection hv with hv
  rw [hv]
theorem append_keep {L v':Value} {A:Option Addr} {n c:Nat} {xs ys:List α} {y:α} (hR:∀ cs x,R w cs x→R w' cs x) (hl:SlRep sz maxLen R w (.slice A n c) ys) (h0:∀ a,A=some a→a=⟨a.block,0,none⟩)
    (hx:xs.take n=ys) (hn:n≤xs.length) (hg:w.grownBy w' L.ownBlock) (hv:OwnL sz B e R w' v' (xs++[y])) (hb:v'.ownBlock=L.ownBlock∨v'.ownBlock=some w.heap.size∧w.grownBy w' none):SlRep sz maxLen R w' (.slice A n c) ys:=by
 by_cases hs:L.ownBlock=(Value.slice A n c).ownBlock
 ·rcases hb with hb|⟨_,hb⟩
  ·cases A with
   | none =>
    obtain ⟨A1,c1,e1,h1,h2,h3⟩:=hl;refine ⟨A1,c1,e1,h1,h2,fun i x hx => ?_⟩;obtain ⟨b,off,cs,hA,_⟩:=h3 i x hx;injection e1 with e1 _ _
    rw [hA] at e1;cases e1
   | some a =>
    obtain ⟨A1,c1,e1,h1,h2⟩:=hv.rep.form;have h3:=hv.rep;obtain ⟨B1,c2,e2,h4,h5,_⟩:=hl;have ea:=h0 a rfl
    have hA1:A1=some a:=by
     rw [hs,e1] at hb;cases A1 with
     | none => cases hb
     | some a1 =>
      have h6:=(e1 ▸ hv).at0 a1 rfl;have h7:a1.block=a.block:=by injection hb
      rw [h6,ea,h7]
    rw [e1,hA1] at h3;injection e2 with e2 e3 e4
    have h8:=SlRep.prefix h3 (m:=n) (cap':=c) (M':=maxLen) (by simp;omega) (by omega) (by omega);rw [List.take_append_of_le_length hn,hx] at h8;exact h8
  ·exact hl.onlyB hR (Only.grown (S:=fun _ => False) hb (fun k hk => by cases hk)) (fun k _ h => h)
 ·exact hl.onlyB hR (Only.grown (S:=fun k => L.ownBlock=some k) hg (fun k hk => hk)) (fun k hk h => hs (h.trans hk.symm))
end
theorem wpList_append1 {P:Program} {α:Type} {sz B:Nat} {e e':TypeId} {R:World→List Value→α→Prop} {ops:Array Oper} {rest:List Oper} {Q:Exit→Act→World→Prop} {o:Oper} {a:Act} {t:TypeId} {z:Value} {bytes:Nat} {w:World} {L:Value} {xs:List α} (hgd:Region.wanted o (yielded ops a.tmps)=true) (s x:Operand)
    (ho:o.op = .call { callee:=.builtin .append,args:=#[s,x],argTypes:=#[t,t] }) (ht:P.underlying t=some (.slice e)) (hinfo:(P.info? e).map (fun i => (i.zero,i.size,i.bytes))=some (some z,sz,bytes)) (hzs:z.cells.size=sz) (hsz:0<sz)
    (hR1:∀ w cs x,R w cs x→∀ u ∈ cs,u.oneCell'=true) (hRk:∀ w' cs (x:α),R w cs x→w.grownBy w' L.ownBlock→R w' cs x) {b:Nat} {cs:List Value} {y:α}
    (hs:a.eval s=L) (hx:a.eval x = .slice (some ⟨b,0,none⟩) 1 1) (h:OwnL sz B e R w L xs) (hb:w.heap[b]?=some (Obj.cells cs.toArray e' (0,0))) (hcl:cs.length=sz) (hy:R w cs y) (h63:xs.length+1≤maxLen) (hbytes:(xs.length+1) * bytes≤140737488355328) (hbase:B≤w.heap.size)
    (k:∀ v' w',OwnL sz B e R w' v' (xs++[y])→w.grownBy w' L.ownBlock→(v'.ownBlock=L.ownBlock∨v'.ownBlock=some w.heap.size∧w.grownBy w' none)→wpList P ops Q rest (a.put o.dst v') w'):wpList P ops Q (o :: rest) a w:=by
 obtain ⟨i,hi,hz,hs',hby⟩:=info_parts hinfo;obtain ⟨v',w',hr,h2,h3,h4⟩:=run_append1 (P:=P) t o.type i z bytes ht hi hz hs' hby hzs hsz hR1 hRk h hb hcl hy h63 hbytes hbase;refine wpList_of_run hgd ?_ (k v' w' h2 h3 h4);unfold execOp;simp only [ho,resolve,invoke,builtin,Sem.run_bind,Sem.run_pure,Result.andThen_ok,List.map_toArray,List.map_cons,List.map_nil,hs,hx,hr]
structure Grow {α:Type} (sz B:Nat) (e th:TypeId) (R:World→List Value→α→Prop) (mk:Int→α) (w:World) (v:Value) (hs:List Hd) (ns:Nat→Nat) (k:Nat) (W:World) (hs':List Hd):Prop where
 held:OwnL 3 B th RH W v hs'
 len:hs'.length=hs.length
 rest:∀ (i:Nat),k≤i→hs'[i]?=hs[i]?
 done:∀ (i:Nat) (h:Hd),i<k→hs[i]?=some h→∃ L,hs'[i]?=some ⟨h.l,L,h.n⟩∧SlRep sz maxLen R W h.l (List.replicate (ns i) (mk h.n))∧SlRep sz maxLen R W L (List.replicate (ns i+70) (mk h.n))∧∀ x,L.ownBlock=some x→h.l.ownBlock=some x∨w.heap.size≤x
 todo:∀ (i:Nat) (h:Hd),k≤i→hs[i]?=some h→OwnL sz B e R W h.l (List.replicate (ns i) (mk h.n))
 only:Only (fun x => ownsL hs x∨v.ownBlock=some x) w W
theorem Grow.step {α:Type} {sz B:Nat} {e th:TypeId} {R:World→List Value→α→Prop} {mk:Int→α} {w:World} {v:Value} {hs hs':List Hd} {ns:Nat→Nat} {k:Nat} {W w1 w2:World} {hd:Hd} {L:Value} (h:Grow sz B e th R mk w v hs ns k W hs') (hR1:∀ cs x,R W cs x→R w1 cs x) (hR2:∀ cs x,R w1 cs x→R w2 cs x)
    (apart:∀ (i j:Nat) (h k:Hd),hs[i]?=some h→hs[j]?=some k→i≠j→∀ x,h.l.ownBlock=some x→k.l.ownBlock≠some x) (hlow:∀ x,ownsL hs x→x<w.heap.size) (hv:∀ x,v.ownBlock=some x→x<w.heap.size∧¬ ownsL hs x)
    (hk:hs[k]?=some hd) (O1:Only (fun j => hd.l.ownBlock=some j) W w1) (hl:SlRep sz maxLen R w1 hd.l (List.replicate (ns k) (mk hd.n))) (hL:SlRep sz maxLen R w1 L (List.replicate (ns k+70) (mk hd.n))) (hLb:∀ x,L.ownBlock=some x→hd.l.ownBlock=some x∨W.heap.size≤x)
    (O2:Only (fun j => v.ownBlock=some j) w1 w2) (hH:OwnL 3 B th RH w2 v (hs'.set k ⟨hd.l,L,hd.n⟩)):Grow sz B e th R mk w v hs ns (k+1) w2 (hs'.set k ⟨hd.l,L,hd.n⟩):=by
 have hkl:k<hs'.length:=by rw [h.len];exact (List.getElem?_eq_some_iff.1 hk).1
 have hWs:=h.only.size;refine ⟨hH,by rw [List.length_set];exact h.len,fun i hi => by rw [List.getElem?_set_ne (by omega)];exact h.rest i (by omega),fun i h' hi hi' => ?_,fun i h' hi hi' => ?_,?_⟩
 ·by_cases hik:i=k
  ·subst hik;obtain rfl:=Option.some.inj (hi'.symm.trans hk);refine ⟨L,by rw [List.getElem?_set_self hkl],hl.onlyB hR2 O2 fun x hx hvx => (hv x hvx).2 ⟨i,h',hi',hx⟩,hL.onlyB hR2 O2 fun x hx hvx => ?_,fun x hx => (hLb x hx).imp id fun h => by omega⟩;rcases hLb x hx with h1|h1
   ·exact (hv x hvx).2 ⟨i,h',hi',h1⟩
   ·have:=(hv x hvx).1;omega
  ·obtain ⟨L',e1,e2,e3,e4⟩:=h.done i h' (by omega) hi';refine ⟨L',by rw [List.getElem?_set_ne (fun e => hik e.symm)];exact e1,?_,?_,e4⟩
   ·exact (e2.onlyB hR1 O1 fun x hx hx2 => apart i k h' hd hi' hk hik x hx hx2).onlyB hR2 O2 fun x hx hvx => (hv x hvx).2 ⟨i,h',hi',hx⟩
   ·refine (e3.onlyB hR1 O1 fun x hx hx2 => ?_).onlyB hR2 O2 fun x hx hvx => ?_
    ·rcases e4 x hx with h1|h1
     ·exact apart i k h' hd hi' hk hik x h1 hx2
     ·have:=hlow x ⟨k,hd,hk,hx2⟩;omega
    ·rcases e4 x hx with h1|h1
     ·exact (hv x hvx).2 ⟨i,h',hi',h1⟩
     ·have:=(hv x hvx).1;omega
 ·exact ((h.todo i h' (by omega) hi').only hR1 O1 fun x hx hx2 => apart i k h' hd hi' hk (by omega) x hx hx2).only hR2 O2 fun x hx hvx => (hv x hvx).2 ⟨i,h',hi',hx⟩
 ·exact (h.only.trans (O1.mono fun x _ hx => .inl ⟨k,hd,hk,hx⟩)).trans (O2.mono fun x _ hx => .inr hx)
def Looks {α:Type} (sz:Nat) (R:World→List Value→α→Prop) (mk:Int→α) (ns:Nat→Nat) (W:World) (hs':List Hd):Prop :=
 ∀ (i:Nat) (h:Hd),hs'[i]?=some h→SlRep sz maxLen R W h.l (List.replicate (ns i) (mk h.n))∧SlRep sz maxLen R W h.long (List.replicate (ns i+70) (mk h.n))
theorem Grow.looks {α:Type} {sz B:Nat} {e th:TypeId} {R:World→List Value→α→Prop} {mk:Int→α} {w:World} {v:Value} {hs hs':List Hd} {ns:Nat→Nat} {W W':World} {S:Nat→Prop} (h:Grow sz B e th R mk w v hs ns hs.length W hs') (hR:∀ cs x,R W cs x→R W' cs x)
    (hf:Only S W W') (hd:∀ k,S k→k<w.heap.size∧¬ ownsL hs k∧v.ownBlock≠some k):OwnL 3 B th RH W' v hs'∧Looks sz R mk ns W' hs':=by
 refine ⟨h.held.only (RH.same _ _) hf fun k hk hs => (hd k hs).2.2 hk,fun i h' hi => ?_⟩;have hl:i<hs.length:=by rw [← h.len];exact (List.getElem?_eq_some_iff.1 hi).1
 obtain ⟨L,e1,e2,e3,e4⟩:=h.done i hs[i] hl (List.getElem?_eq_getElem hl);rw [hi] at e1;obtain rfl:=Option.some.inj e1;refine ⟨e2.onlyB hR hf fun k hk hs' => (hd k hs').2.1 ⟨i,_,List.getElem?_eq_getElem hl,hk⟩,e3.onlyB hR hf fun k hk hs' => ?_⟩;rcases e4 k hk with h5|h5
 ·exact (hd k hs').2.1 ⟨i,_,List.getElem?_eq_getElem hl,h5⟩
 ·have:=(hd k hs').1;omega
theorem Looks.fut {α:Type} {sz:Nat} {R:World→List Value→α→Prop} {mk:Int→α} {ns:Nat→Nat} {W W':World} {hs':List Hd} (h:Looks sz R mk ns W hs') (hR:Stays R) (hf:Fut W W'):Looks sz R mk ns W' hs':=fun i h' hi => ⟨(h i h' hi).1.fut hR hf,(h i h' hi).2.fut hR hf⟩
def Ty (w:World) (t:TypeId) (k:Nat):Prop:=∃ arr,w.heap[k]?=some (.cells arr t (0,0))
theorem Ty.ne {w:World} {t t':TypeId} {k k':Nat} (h:Ty w t k) (h':Ty w t' k') (hn:t≠t'):k≠k':=fun e => by
 obtain ⟨a,h⟩:=h;obtain ⟨a',h'⟩:=h';rw [e,h'] at h;injection h with h
 injection h with _ h
 exact hn h.symm
end Go.Proofs.YtobabnpllokkaaaGreatDoor
namespace Go.Proofs.YtobabnpllokkaaaGreatDoor
open Go.RowKit Go.WideMaps
theorem mark_cong {α:Type} {mk:Int→α} {hs:List Hd} {f:Nat→List α} {i:Nat} (hi:i<hs.length):markF mk hs f i=List.replicate (f i).length (mk (hs.getD i ⟨.slice none 0 0,.slice none 0 0,0⟩).n):=by
 have h1:hs[i]?=some hs[i]:=List.getElem?_eq_getElem hi;rw [markF_at h1,List.getD_eq_getElem?_getD,h1];rfl
def snocF {α:Type} (f:Nat→List α) (m:Nat) (ys:List α) (i:Nat):List α:=if i=m then ys else f i
theorem Lists.snoc {α:Type} {sz B:Nat} {e:TypeId} {R:World→List Value→α→Prop} {w:World} {hs:List Hd} {f:Nat→List α} {h:Hd} {ys:List α} (H:Lists sz B e R w hs f) (hy:OwnL sz B e R w h.l ys) (hap:∀ k,h.l.ownBlock=some k→¬ ownsL hs k):Lists sz B e R w (hs++[h]) (snocF f hs.length ys):=by
 have at':∀ (i:Nat) (k:Hd),(hs++[h])[i]?=some k→(i<hs.length∧hs[i]?=some k)∨(i=hs.length∧k=h):=fun i k hi => by
  by_cases hl:i<hs.length
  ·rw [List.getElem?_append_left hl] at hi;exact .inl ⟨hl,hi⟩
  ·rw [List.getElem?_append_right (by omega)] at hi;have:=(List.getElem?_eq_some_iff.1 hi).1;have e:i=hs.length:=by simp at this;omega
   subst e;simp at hi;exact .inr ⟨rfl,hi.symm⟩
 refine ⟨fun i k hi => ?_,fun i j k l hi hj hij x hx hy' => ?_⟩
 ·unfold snocF;rcases at' i k hi with ⟨h1,h2⟩|⟨rfl,rfl⟩
  ·rw [if_neg (by omega)];exact H.each i k h2
  ·rw [if_pos rfl];exact hy
 ·rcases at' i k hi with ⟨h1,h2⟩|⟨rfl,rfl⟩
  ·rcases at' j l hj with ⟨h3,h4⟩|⟨rfl,rfl⟩
   ·exact H.apart i j k l h2 h4 hij x hx hy'
   ·exact hap x hy' ⟨i,k,h2,hx⟩
  ·rcases at' j l hj with ⟨h3,h4⟩|⟨rfl,rfl⟩
   ·exact hap x hx ⟨j,l,h4,hy'⟩
   ·exact hij rfl
theorem ownsL_snoc {hs:List Hd} {h:Hd} {k:Nat}:ownsL (hs++[h]) k↔ownsL hs k∨h.l.ownBlock=some k:=by
 constructor
 ·rintro ⟨i,x,hi,hk⟩
  by_cases hl:i<hs.length
  ·rw [List.getElem?_append_left hl] at hi;exact .inl ⟨i,x,hi,hk⟩
  ·rw [List.getElem?_append_right (by omega)] at hi;have:=(List.getElem?_eq_some_iff.1 hi).1;have e:i=hs.length:=by simp at this;omega
   subst e;simp at hi;subst hi;exact .inr hk
 ·rintro (⟨i,x,hi,hk⟩|hk)
  ·have hl:=(List.getElem?_eq_some_iff.1 hi).1;exact ⟨i,x,by rw [List.getElem?_append_left hl];exact hi,hk⟩
  ·exact ⟨hs.length,h,by simp,hk⟩
theorem ownsL_nil {k:Nat}:¬ ownsL [] k:=fun ⟨i,x,hi,_⟩ => by simp at hi
theorem Lists.nil {α:Type} {sz B:Nat} {e:TypeId} {R:World→List Value→α→Prop} {w:World} {f:Nat→List α}:Lists sz B e R w [] f:=⟨fun i h hi => by simp at hi,fun i j h k hi => by simp at hi⟩
abbrev Hd0:Hd:=⟨.slice none 0 0,.slice none 0 0,0⟩
structure Kd where
 sz:Nat
 e:TypeId
 H:TypeId
 R:World→List Value→Option Int→Prop
 bd:Nat
section
variable (P:Program) (PW:World→Prop) (NB:Nat)
def FillAt (f:FuncId) (j:Nat) (K:Kd) (hs:List Hd):Prop :=
 ∀ {B:Nat} {w:World} {b:Nat} {v:Value} {g:Nat→List (Option Int)},w.cell? ⟨b,j,none⟩=some v→(hs=[]→v = .slice none 0 0)→OwnL 3 B K.H RH w v hs→Lists K.sz B K.e K.R w hs g→¬ ownsL hs b→(∀ k,v.ownBlock=some k→¬ ownsL hs k)→NB≤w.heap.size→(∀ W,Only (fun k => B≤k) w W→PW W) →
  Calls P f #[.pointer (some ⟨b,0,none⟩)] w fun e w' => (∃ u,e = .returned u)∧Lists K.sz B K.e K.R w' hs (markF some hs g)∧Only (ownsL hs) w w'
def GrowAt (f:FuncId) (j:Nat) (K:Kd) (hs:List Hd):Prop :=
 ∀ {B:Nat} {w:World} {b:Nat} {v:Value} {ns:Nat→Nat},w.cell? ⟨b,j,none⟩=some v→(hs=[]→v = .slice none 0 0)→OwnL 3 B K.H RH w v hs→Lists K.sz B K.e K.R w hs (fun i => List.replicate (ns i) (some ((hs.getD i Hd0).n)))→¬ ownsL hs b→v.ownBlock≠some b→(∀ k,v.ownBlock=some k→¬ ownsL hs k)→B≤w.heap.size→(∀ i,i<hs.length→ns i+70≤K.bd)→NB≤w.heap.size→(∀ W,Only (fun k => B≤k) w W→PW W) →
  Calls P f #[.pointer (some ⟨b,0,none⟩)] w fun e w' => (∃ u,e = .returned u)∧∃ hs',Grow K.sz B K.e K.H K.R some w v hs ns hs.length w' hs'
def LookAt (f:FuncId) (j:Nat) (K:Kd) (hs:List Hd):Prop :=
 ∀ {w:World} {b:Nat} {v:Value} {hs':List Hd} {ns:Nat→Nat},w.cell? ⟨b,j,none⟩=some v→(hs=[]→v = .slice none 0 0)→SlRep 3 maxLen RH w v hs'→Looks K.sz K.R some ns w hs'→hs'.length=hs.length→(∀ (i:Nat) (h:Hd),hs'[i]?=some h→∃ h0,hs[i]?=some h0∧h0.n=h.n)→(∀ i,i<hs'.length→ns i+70≤K.bd)→(∀ W,Fut w W→PW W) →
  Calls P f #[.pointer (some ⟨b,0,none⟩)] w fun e w' => e = .returned (.bool true)∧Fut w w'
end
structure Kinds (TB:TypeId) (T:Nat→Kd) (NB:Nat):Prop where
 ee:∀ i j,1≤i→i<32→1≤j→j<32→i≠j→(T i).e≠(T j).e
 hh:∀ i j,1≤i→i<32→1≤j→j<32→i≠j→(T i).H≠(T j).H
 eh:∀ i j,1≤i→i<32→1≤j→j<32→(T i).e≠(T j).H
 eb:∀ i,1≤i→i<32→(T i).e≠TB
 hb:∀ i,1≤i→i<32→(T i).H≠TB
 stay:∀ j (S:Nat→Prop) (w w':World),Only S w w'→(∀ k,S k→k<NB)→∀ cs x,(T j).R w cs x→(T j).R w' cs x
 fut:∀ j,Stays (T j).R
structure BkSt (TB:TypeId) (T:Nat→Kd) (NB B:Nat) (w:World) (b:Nat) (n:Int) (vs:Nat→Value) (hs:Nat→List Hd) (g:Nat→Nat→List (Option Int)):Prop where
 book:BookAt TB w b n vs
 held:∀ j,1≤j→j<32→OwnL 3 B (T j).H RH w (vs j) (hs j)
 lists:∀ j,1≤j→j<32→Lists (T j).sz B (T j).e (T j).R w (hs j) (g j)
 base:B≤w.heap.size
 nb:NB≤w.heap.size
 low:∀ j k,1≤j→j<32→(ownsL (hs j) k∨(vs j).ownBlock=some k)→k<NB
 bb:b<NB
 nil:∀ j,hs j=[]→vs j = .slice none 0 0
section
variable {TB:TypeId} {T:Nat→Kd} {NB B:Nat} {w w':World} {b:Nat} {n:Int} {vs:Nat→Value} {hs:Nat→List Hd} {g:Nat→Nat→List (Option Int)}
def ownsA (vs:Nat→Value) (hs:Nat→List Hd) (k:Nat):Prop:=∃ j,1≤j∧j<32∧(ownsL (hs j) k∨(vs j).ownBlock=some k)
theorem BkSt.tB (h:BkSt TB T NB B w b n vs hs g):Ty w TB b:=by
 obtain ⟨arr,h0,_⟩:=h.book.blk;exact ⟨arr,h0⟩
theorem BkSt.tH (h:BkSt TB T NB B w b n vs hs g) {j k:Nat} (h1:1≤j) (h2:j<32) (hk:(vs j).ownBlock=some k):Ty w (T j).H k:=(h.held j h1 h2).typed k hk
theorem BkSt.tI (h:BkSt TB T NB B w b n vs hs g) {j k:Nat} (h1:1≤j) (h2:j<32) (hk:ownsL (hs j) k):Ty w (T j).e k:=(h.lists j h1 h2).typed k hk
theorem BkSt.fillJ (h:BkSt TB T NB B w b n vs hs g) (hK:Kinds TB T NB) {P:Program} {PW:World→Prop} {f:FuncId} {j:Nat} (h1:1≤j) (h2:j<32) (hF:FillAt P PW NB f j (T j) (hs j)) (hP:∀ W,Only (fun k => B≤k) w W→PW W) :
    Calls P f #[.pointer (some ⟨b,0,none⟩)] w fun e w' => (∃ u,e = .returned u)∧BkSt TB T NB B w' b n vs hs (fun i => if i=j then markF some (hs j) (g j) else g i)∧Only (fun k => B≤k) w w'∧Only (ownsA vs hs) w w':=by
 refine (hF (h.book.cell h1 h2) (h.nil j) (h.held j h1 h2) (h.lists j h1 h2) (fun hk => (h.tI h1 h2 hk).ne h.tB (hK.eb j h1 h2) rfl) (fun k hk hk2 => (h.tH h1 h2 hk).ne (h.tI h1 h2 hk2) (fun e => hK.eh j j h1 h2 h1 h2 e.symm) rfl) h.nb hP).mono ?_;rintro e w' ⟨hu,hl,hO⟩;refine ⟨hu,⟨h.book.only hO (fun hk => (h.tI h1 h2 hk).ne h.tB (hK.eb j h1 h2) rfl),fun i i1 i2 => (h.held i i1 i2).only (RH.same _ _) hO fun k hk hk2 => (h.tH i1 i2 hk).ne (h.tI h1 h2 hk2) (fun e => hK.eh j i h1 h2 i1 i2 e.symm) rfl,fun i i1 i2 => ?_,Nat.le_trans h.base hO.size,Nat.le_trans h.nb hO.size,h.low,h.bb,h.nil⟩,hO.mono fun k _ hk => ((h.lists j h1 h2).lt k hk).1,hO.mono fun k _ hk => ⟨j,h1,h2,.inl hk⟩⟩
 by_cases hi:i=j
 ·subst hi;rw [if_pos rfl];exact hl
 ·rw [if_neg hi];exact (h.lists i i1 i2).only (hK.stay i _ _ _ hO fun k hk => h.low j k h1 h2 (.inl hk)) hO fun k hk hk2 => (h.tI i1 i2 hk).ne (h.tI h1 h2 hk2) (hK.ee i j i1 i2 h1 h2 hi) rfl
end
def FillTo (TB:TypeId) (T:Nat→Kd) (NB B:Nat) (w:World) (b:Nat) (n:Int) (vs:Nat→Value) (hs:Nat→List Hd) (g:Nat→Nat→List (Option Int)) (m:Nat):Prop :=
 ∃ g',BkSt TB T NB B w b n vs hs g'∧(∀ i,i<m→1≤i→g' i=markF some (hs i) (g i))∧∀ i,m≤i→g' i=g i
section
variable {TB:TypeId} {T:Nat→Kd} {NB B:Nat} {w w':World} {b:Nat} {n:Int} {vs:Nat→Value} {hs:Nat→List Hd} {g:Nat→Nat→List (Option Int)} {m:Nat}
theorem FillTo.start (h:BkSt TB T NB B w b n vs hs g):FillTo TB T NB B w b n vs hs g 1:=⟨g,h,fun i h1 h2 => by omega,fun _ _ => rfl⟩
theorem FillTo.step (h:FillTo TB T NB B w b n vs hs g m) (hK:Kinds TB T NB) {P:Program} {PW:World→Prop} {f:FuncId} (h1:1≤m) (h2:m<32) (hF:FillAt P PW NB f m (T m) (hs m)) (hP:∀ W,Only (fun k => B≤k) w W→PW W) :
    Calls P f #[.pointer (some ⟨b,0,none⟩)] w fun e w' => (∃ u,e = .returned u)∧FillTo TB T NB B w' b n vs hs g (m+1)∧Only (fun k => B≤k) w w'∧Only (ownsA vs hs) w w':=by
 obtain ⟨g',q1,q2,q3⟩:=h;refine (q1.fillJ hK h1 h2 hF hP).mono ?_;rintro e w' ⟨hu,hs',o1,o2⟩;refine ⟨hu,⟨_,hs',fun i hi i1 => ?_,fun i hi => ?_⟩,o1,o2⟩
 ·by_cases him:i=m
  ·subst him;rw [if_pos rfl,q3 i (Nat.le_refl _)]
  ·rw [if_neg him];exact q2 i (by omega) i1
 ·rw [if_neg (by omega)];exact q3 i (by omega)
end
structure GwSt (TB:TypeId) (T:Nat→Kd) (NB B:Nat) (w:World) (b:Nat) (n:Int) (vs:Nat→Value) (hs:Nat→List Hd) (ns:Nat→Nat→Nat) (m:Nat) (hs':Nat→List Hd):Prop where
 book:BookAt TB w b n vs
 held:∀ j,m≤j→1≤j→j<32→OwnL 3 B (T j).H RH w (vs j) (hs j)
 lists:∀ j,m≤j→1≤j→j<32→Lists (T j).sz B (T j).e (T j).R w (hs j) (fun i => List.replicate (ns j i) (some (((hs j).getD i Hd0).n)))
 grown:∀ j,j<m→1≤j→j<32→OwnL 3 B (T j).H RH w (vs j) (hs' j)∧Looks (T j).sz (T j).R some (ns j) w (hs' j)∧(hs' j).length=(hs j).length∧(∀ (i:Nat) (h:Hd),(hs' j)[i]?=some h→∃ h0,(hs j)[i]?=some h0∧h0.n=h.n∧h.l=h0.l∧∀ x,h.long.ownBlock=some x→h.l.ownBlock=some x∨NB≤x)
 base:B≤w.heap.size
 nb:NB≤w.heap.size
 low:∀ j k,1≤j→j<32→(ownsL (hs j) k∨(vs j).ownBlock=some k)→k<NB
 bb:b<NB
 nil:∀ j,hs j=[]→vs j = .slice none 0 0
 disL:∀ i j k,1≤i→i<32→1≤j→j<32→i≠j→ownsL (hs i) k→¬ ownsL (hs j) k
 disV:∀ i j k,1≤i→i<32→1≤j→j<32→ownsL (hs i) k→(vs j).ownBlock≠some k
section
variable {TB:TypeId} {T:Nat→Kd} {NB B:Nat} {w w':World} {b:Nat} {n:Int} {vs:Nat→Value} {hs hs':Nat→List Hd} {g:Nat→Nat→List (Option Int)} {ns:Nat→Nat→Nat} {m:Nat}
theorem BkSt.grow0 (h:BkSt TB T NB B w b n vs hs g) (hK:Kinds TB T NB) (hg:∀ j,1≤j→j<32→∀ i,i<(hs j).length→g j i=List.replicate (ns j i) (some (((hs j).getD i Hd0).n))):GwSt TB T NB B w b n vs hs ns 1 hs :=
 ⟨h.book,fun j _ => h.held j,fun j _ h1 h2 => (h.lists j h1 h2).cong (hg j h1 h2),fun j h0 h1 => by omega,h.base,h.nb,h.low,h.bb,h.nil,
  fun i j k i1 i2 j1 j2 hij hk hk2 => (h.tI i1 i2 hk).ne (h.tI j1 j2 hk2) (hK.ee i j i1 i2 j1 j2 hij) rfl,fun i j k i1 i2 j1 j2 hk hk2 => (h.tI i1 i2 hk).ne (h.tH j1 j2 hk2) (hK.eh i j i1 i2 j1 j2) rfl⟩
theorem FillTo.grow0 (h:FillTo TB T NB B w b n vs hs g 32) (hK:Kinds TB T NB):GwSt TB T NB B w b n vs hs (fun j i => (g j i).length) 1 hs:=by
 obtain ⟨g',q1,q2,_⟩:=h;exact q1.grow0 hK fun j h1 h2 i hi => by rw [q2 j h2 h1];exact mark_cong hi
theorem GwSt.growJ (h:GwSt TB T NB B w b n vs hs ns m hs') (hK:Kinds TB T NB) {P:Program} {PW:World→Prop} {f:FuncId} (h1:1≤m) (h2:m<32) (hG:GrowAt P PW NB f m (T m) (hs m)) (hbd:∀ i,i<(hs m).length→ns m i+70≤(T m).bd) (hP:∀ W,Only (fun k => B≤k) w W→PW W) :
    Calls P f #[.pointer (some ⟨b,0,none⟩)] w fun e w' => (∃ u,e = .returned u)∧(∃ hs'',GwSt TB T NB B w' b n vs hs ns (m+1) hs'')∧Only (fun k => B≤k) w w'∧Only (ownsA vs hs) w w':=by
 have hH:=h.held m (Nat.le_refl _) h1 h2;have hL:=h.lists m (Nat.le_refl _) h1 h2
 have tB:Ty w TB b:=by
  obtain ⟨arr,h0,_⟩:=h.book.blk;exact ⟨arr,h0⟩
 have tH:∀ k,(vs m).ownBlock=some k→Ty w (T m).H k:=fun k hk => hH.typed k hk;have tI:∀ k,ownsL (hs m) k→Ty w (T m).e k:=fun k hk => hL.typed k hk;refine (hG (h.book.cell h1 h2) (h.nil m) hH hL (fun hk => (tI b hk).ne tB (hK.eb m h1 h2) rfl) (fun hk => (tH b hk).ne tB (hK.hb m h1 h2) rfl) (fun k hk hk2 => (tH k hk).ne (tI k hk2) (fun e => hK.eh m m h1 h2 h1 h2 e.symm) rfl) h.base hbd h.nb hP).mono ?_;rintro e w' ⟨hu,hq,hGr⟩;have hO:=hGr.only;have hlow:∀ k,(ownsL (hs m) k∨(vs m).ownBlock=some k)→k<NB:=fun k hk => h.low m k h1 h2 hk;have nB:¬ (ownsL (hs m) b∨(vs m).ownBlock=some b):=fun hk => hk.elim (fun hk => (tI b hk).ne tB (hK.eb m h1 h2) rfl) fun hk => (tH b hk).ne tB (hK.hb m h1 h2) rfl;have nH:∀ i,1≤i→i<32→i≠m→∀ k,Ty w (T i).H k→¬ (ownsL (hs m) k∨(vs m).ownBlock=some k):=fun i i1 i2 him k hT hk => hk.elim (fun hk => hT.ne (tI k hk) (fun e => hK.eh m i h1 h2 i1 i2 e.symm) rfl) fun hk => hT.ne (tH k hk) (hK.hh i m i1 i2 h1 h2 him) rfl;refine ⟨hu,⟨fun i => if i=m then hq else hs' i,⟨h.book.only hO nB,fun i hi i1 i2 => (h.held i (by omega) i1 i2).only (RH.same _ _) hO fun k hk => nH i i1 i2 (by omega) k ((h.held i (by omega) i1 i2).typed k hk),fun i hi i1 i2 => ?_,fun i hi i1 i2 => ?_,Nat.le_trans h.base hO.size,Nat.le_trans h.nb hO.size,h.low,h.bb,h.nil,h.disL,h.disV⟩⟩,hO.mono fun k _ hk => hk.elim (fun hk => (hL.lt k hk).1) fun hk => (hH.block k hk).1,hO.mono fun k _ hk => ⟨m,h1,h2,hk⟩⟩
 ·exact (h.lists i (by omega) i1 i2).only (hK.stay i _ _ _ hO hlow) hO fun k hk hk2 => hk2.elim (h.disL i m k i1 i2 h1 h2 (by omega) hk) (h.disV i m k i1 i2 h1 h2 hk)
 ·by_cases him:i=m
  ·subst him;rw [if_pos rfl];obtain ⟨g1,g2⟩:=hGr.looks (W':=w') (S:=fun _ => False) (fun _ _ h => h) (Only.refl _) (fun k hk => hk.elim);refine ⟨g1,g2,hGr.len,fun q x hx => ?_⟩;have hl:q<(hs i).length:=by rw [← hGr.len];exact (List.getElem?_eq_some_iff.1 hx).1
   obtain ⟨L,e1,_,_,e4⟩:=hGr.done q (hs i)[q] hl (List.getElem?_eq_getElem hl);rw [hx] at e1;obtain rfl:=Option.some.inj e1;exact ⟨_,List.getElem?_eq_getElem hl,rfl,rfl,fun x hx => (e4 x hx).imp id fun h9 => Nat.le_trans h.nb h9⟩
  ·rw [if_neg him];obtain ⟨q1,q2,q3,q4⟩:=h.grown i (by omega) i1 i2;refine ⟨q1.only (RH.same _ _) hO fun k hk => nH i i1 i2 him k (q1.typed k hk),fun q x hx => ?_,q3,q4⟩;obtain ⟨h0,a1,a2,a3,a4⟩:=q4 q x hx
   have nl:∀ k,x.l.ownBlock=some k→¬ (ownsL (hs m) k∨(vs m).ownBlock=some k):=fun k hk hk2 => by
    have ho:ownsL (hs i) k:=⟨q,h0,a1,a3 ▸ hk⟩
    exact hk2.elim (h.disL i m k i1 i2 h1 h2 him ho) (h.disV i m k i1 i2 h1 h2 ho)
   have ngl:∀ k,x.long.ownBlock=some k→¬ (ownsL (hs m) k∨(vs m).ownBlock=some k):=fun k hk hk2 => by
    rcases a4 k hk with q5|q5
    ·exact nl k q5 hk2
    ·have:=hlow k hk2;omega
   exact ⟨(q2 q x hx).1.onlyB (hK.stay i _ _ _ hO hlow) hO nl,(q2 q x hx).2.onlyB (hK.stay i _ _ _ hO hlow) hO ngl⟩
theorem GwSt.lookJ (h:GwSt TB T NB B w b n vs hs ns 32 hs') (hK:Kinds TB T NB) {P:Program} {PW:World→Prop} {f:FuncId} {j:Nat} (h1:1≤j) (h2:j<32) (hL:LookAt P PW f j (T j) (hs j)) (hbd:∀ i,i<(hs j).length→ns j i+70≤(T j).bd) (hP:∀ W,Fut w W→PW W) {W:World} (hW:Fut w W) :
    Calls P f #[.pointer (some ⟨b,0,none⟩)] W fun e w' => e = .returned (.bool true)∧Fut W w':=by
 obtain ⟨q1,q2,q3,q4⟩:=h.grown j h2 h1 h2;refine hL ((h.book.only (S:=fun _ => False) (Only.fut hW) (fun h => h)).cell h1 h2) (h.nil j) (q1.rep.fut RH.stays hW) (q2.fut (hK.fut j) hW) q3 (fun i x hx => ?_) (fun i hi => hbd i (by rw [← q3];exact hi)) (fun W' hW' => hP W' (hW.trans hW'));obtain ⟨h0,a1,a2,_⟩:=q4 i x hx;exact ⟨h0,a1,a2⟩
end
def R0 (_:World) (cs:List Value) (_:Option Int):Prop:=∀ u ∈ cs,u.oneCell'=true
def KeepAt (P:Program) (TB:TypeId) (f:FuncId) (j:Nat) (K:Kd):Prop :=
 ∀ {B:Nat} {w:World} {b:Nat} {n:Int} {vs:Nat→Value} {hs:List Hd} {Al:Option Addr} {nl cl:Nat},BookAt TB w b n vs→0≤n∧n<1000000000→OwnL 3 B K.H RH w (vs j) hs→(vs j).ownBlock≠some b→B≤w.heap.size→hs.length<1000000000 →
  Calls P f #[.pointer (some ⟨b,0,none⟩),.slice Al nl cl] w fun e w' => (∃ u,e = .returned u)∧∃ v',BookAt TB w' b (n+1) (updV vs j v')∧OwnL 3 B K.H RH w' v' (hs++[⟨.slice Al nl cl,.slice none 0 0,n+1⟩]) ∧
   Only (fun k => k=b∨(vs j).ownBlock=some k) w w'∧∀ x,v'.ownBlock=some x→(vs j).ownBlock=some x∨w.heap.size≤x
structure Apt (TB:TypeId) (T:Nat→Kd):Prop where
 ee:∀ i j,1≤i→i<32→1≤j→j<32→i≠j→(T i).e≠(T j).e
 hh:∀ i j,1≤i→i<32→1≤j→j<32→i≠j→(T i).H≠(T j).H
 eh:∀ i j,1≤i→i<32→1≤j→j<32→(T i).e≠(T j).H
 eb:∀ i,1≤i→i<32→(T i).e≠TB
 hb:∀ i,1≤i→i<32→(T i).H≠TB
structure BkB (TB:TypeId) (T:Nat→Kd) (B:Nat) (w:World) (b:Nat) (n:Int) (vs:Nat→Value) (hs:Nat→List Hd) (len:Nat→Nat→Nat):Prop where
 book:BookAt TB w b n vs
 held:∀ j,1≤j→j<32→OwnL 3 B (T j).H RH w (vs j) (hs j)
 lists:∀ j,1≤j→j<32→Lists (T j).sz B (T j).e R0 w (hs j) (fun i => List.replicate (len j i) none)
 base:B≤w.heap.size
 nil:∀ j,hs j=[]→vs j = .slice none 0 0
 num:∀ j (i:Nat) (h:Hd),(hs j)[i]?=some h→0≤h.n∧h.n≤n
 cnt:∀ j,((hs j).length:Int)≤n
 pos:0≤n
section
variable {TB:TypeId} {T:Nat→Kd} {NB B:Nat} {w w':World} {b:Nat} {n:Int} {vs:Nat→Value} {hs:Nat→List Hd} {len:Nat→Nat→Nat}
theorem OwnL.none {α:Type} {sz:Nat} {e:TypeId} {R:World→List Value→α→Prop} {v:Value} {xs:List α} (h:OwnL sz B e R w v xs) (h1:∀ cs x,R w cs x→∀ u ∈ cs,u.oneCell'=true):OwnL sz B e R0 w v (List.replicate xs.length none):=by
 obtain ⟨css,a1,a2,a3⟩:=h;refine ⟨css,by rw [List.length_replicate];exact a1,fun i cs x hi hx => ?_,by rw [List.length_replicate];exact a3⟩;have hil:i<xs.length:=by rw [← a1];exact (List.getElem?_eq_some_iff.1 hi).1
 obtain ⟨q1,q2⟩:=a2 i cs xs[i] hi (List.getElem?_eq_getElem hil);exact ⟨q1,h1 _ _ q2⟩
theorem BkB.new (h:BookAt TB w b 0 (fun _ => .slice none 0 0)) (hB:B≤w.heap.size):BkB TB T B w b 0 (fun _ => .slice none 0 0) (fun _ => []) (fun _ _ => 0) :=
 ⟨h,fun j _ _ => OwnL.nil,fun j _ _ => Lists.nil,hB,fun _ _ => rfl,fun j i h hi => by simp at hi,fun _ => Int.le_refl _,Int.le_refl _⟩
theorem BkB.fut (h:BkB TB T B w b n vs hs len) (hf:Fut w w'):BkB TB T B w' b n vs hs len :=
 ⟨h.book.only (S:=fun _ => False) (Only.fut hf) (fun h => h),fun j h1 h2 => (h.held j h1 h2).fut RH.stays hf,fun j h1 h2 => (h.lists j h1 h2).only (fun _ _ h => h) (S:=fun _ => False) (Only.fut hf) (fun _ _ h => h),Nat.le_trans h.base hf.size,h.nil,h.num,h.cnt,h.pos⟩
theorem BkB.put (h:BkB TB T B w b n vs hs len) (hA:Apt TB T) (hn:n<1000000000) {P:Program} {f:FuncId} {j:Nat} (h1:1≤j) (h2:j<32) (hKp:KeepAt P TB f j (T j)) {A:Option Addr} {nl cl m:Nat} (hv:OwnL (T j).sz B (T j).e R0 w (.slice A nl cl) (List.replicate m none)) (hap:∀ k,(Value.slice A nl cl).ownBlock=some k→¬ ownsL (hs j) k) :
    Calls P f #[.pointer (some ⟨b,0,none⟩),.slice A nl cl] w fun e w' => (∃ u,e = .returned u)∧∃ vs',BkB TB T B w' b (n+1) vs' (fun i => if i=j then hs j++[⟨.slice A nl cl,.slice none 0 0,n+1⟩] else hs i) (fun i => if i=j then (fun q => if q=(hs j).length then m else len j q) else len i) ∧
     Only (fun k => k=b∨(vs j).ownBlock=some k) w w'∧∀ i x,(vs' i).ownBlock=some x→(vs i).ownBlock=some x∨w.heap.size≤x:=by
 have tB:Ty w TB b:=by
  obtain ⟨arr,h0,_⟩:=h.book.blk;exact ⟨arr,h0⟩
 have tH:∀ i,1≤i→i<32→∀ k,(vs i).ownBlock=some k→Ty w (T i).H k:=fun i i1 i2 k hk => (h.held i i1 i2).typed k hk;have tI:∀ i,1≤i→i<32→∀ k,ownsL (hs i) k→Ty w (T i).e k:=fun i i1 i2 k hk => (h.lists i i1 i2).typed k hk;have hc:=h.cnt j;refine (hKp (Al:=A) (nl:=nl) (cl:=cl) h.book ⟨h.pos,hn⟩ (h.held j h1 h2) (fun hk => (tH j h1 h2 b hk).ne tB (hA.hb j h1 h2) rfl) h.base (by omega)).mono ?_;rintro e w' ⟨hu,v',hb,hH,hO,hv'⟩
 have nE:∀ i,1≤i→i<32→∀ k,Ty w (T i).e k→¬ (k=b∨(vs j).ownBlock=some k):=fun i i1 i2 k hT hS => by
  rcases hS with rfl|hS
  ·exact hT.ne tB (hA.eb i i1 i2) rfl
  ·exact hT.ne (tH j h1 h2 k hS) (hA.eh i j i1 i2 h1 h2) rfl
 refine ⟨hu,updV vs j v',⟨hb,fun i i1 i2 => ?_,fun i i1 i2 => ?_,Nat.le_trans h.base hO.size,fun i hi => ?_,fun i q x hx => ?_,fun i => ?_,by have:=h.pos;omega⟩,hO,fun i x hx => ?_⟩
 ·by_cases hij:i=j
  ·subst hij;rw [updV_self,if_pos rfl];exact hH
  ·rw [updV_ne hij,if_neg hij]
   exact (h.held i i1 i2).only (RH.same _ _) hO fun k hk hS => by
    rcases hS with rfl|hS
    ·exact (tH i i1 i2 k hk).ne tB (hA.hb i i1 i2) rfl
    ·exact (tH i i1 i2 k hk).ne (tH j h1 h2 k hS) (hA.hh i j i1 i2 h1 h2 hij) rfl
 ·have hL:=(h.lists i i1 i2).only (w':=w') (fun _ _ h => h) hO fun k hk => nE i i1 i2 k (tI i i1 i2 k hk)
  by_cases hij:i=j
  ·subst hij;rw [if_pos rfl,if_pos rfl];refine (hL.snoc (h:=⟨.slice A nl cl,.slice none 0 0,n+1⟩) (hv.only (fun _ _ h => h) hO fun k hk => nE i i1 i2 k (hv.typed k hk)) hap).cong fun q _ => ?_;unfold snocF
   by_cases hq:q=(hs i).length
   ·rw [if_pos hq];simp [hq]
   ·rw [if_neg hq];simp [hq]
  ·rw [if_neg hij,if_neg hij];exact hL
 ·by_cases hij:i=j
  ·subst hij;rw [if_pos rfl] at hi;simp at hi
  ·rw [updV_ne hij];rw [if_neg hij] at hi;exact h.nil i hi
 ·by_cases hij:i=j
  ·subst hij;rw [if_pos rfl] at hx;rcases List.mem_append.1 (List.mem_of_getElem? hx) with hm|hm
   ·obtain ⟨q',hq'⟩:=List.getElem?_of_mem hm;have:=h.num i q' x hq';omega
   ·rw [List.mem_singleton] at hm;subst hm;have:=h.pos;exact ⟨by show 0≤n+1;omega,Int.le_refl _⟩
  ·rw [if_neg hij] at hx;have:=h.num i q x hx;omega
 ·by_cases hij:i=j
  ·subst hij;rw [if_pos rfl,List.length_append,List.length_singleton];have:=h.cnt i;omega
  ·rw [if_neg hij];have:=h.cnt i;omega
 ·by_cases hij:i=j
  ·subst hij;rw [updV_self] at hx;exact hv' x hx
  ·rw [updV_ne hij] at hx;exact .inl hx
theorem BkB.ready (h:BkB TB T B w b n vs hs len) {T':Nat→Kd} (hT:∀ j,(T' j).sz=(T j).sz∧(T' j).e=(T j).e∧(T' j).H=(T j).H) (h0:∀ j w cs,(∀ u ∈ cs,u.oneCell'=true)→(T' j).R w cs none):BkSt TB T' w.heap.size B w b n vs hs (fun j i => List.replicate (len j i) none) :=
 ⟨h.book,fun j h1 h2 => by rw [(hT j).2.2];exact h.held j h1 h2,fun j h1 h2 => by
     rw [(hT j).1,(hT j).2.1]
     exact ⟨fun i x hx => by
      obtain ⟨css,a1,a2,a3⟩:=(h.lists j h1 h2).each i x hx;refine ⟨css,a1,fun q cs y hq hy => ?_,a3⟩;obtain ⟨r1,r2⟩:=a2 q cs y hq hy;obtain rfl:=(List.mem_replicate.1 (List.mem_of_getElem? hy)).2;exact ⟨r1,h0 j w cs r2⟩,(h.lists j h1 h2).apart⟩,
  h.base,Nat.le_refl _,fun j k h1 h2 hk => hk.elim (fun hk => ((h.lists j h1 h2).lt k hk).2) fun hk => ((h.held j h1 h2).block k hk).2,h.book.lt,h.nil⟩
end
def BkU (TB:TypeId) (T:Nat→Kd) (U:Nat→Prop) (L B:Nat) (w:World) (b:Nat) (n:Int) (S:Nat→Nat→Prop):Prop :=
 ∃ vs hs len,BkB TB T B w b n vs hs len∧(∀ j k,ownsL (hs j) k→S j k)∧(∀ j i,i<(hs j).length→len j i≤L)∧(∀ j,¬ U j→hs j=[])∧∀ j k,(vs j).ownBlock=some k→b≤k
section
variable {TB:TypeId} {T:Nat→Kd} {U:Nat→Prop} {L B:Nat} {w w':World} {b:Nat} {n:Int} {S:Nat→Nat→Prop}
theorem BkU.new (h:BookAt TB w b 0 (fun _ => .slice none 0 0)) (hB:B≤w.heap.size):BkU TB T U L B w b 0 (fun _ _ => False) :=
 ⟨_,_,_,BkB.new h hB,fun j k h => ownsL_nil h,fun j i hi => by simp at hi,fun _ _ => rfl,fun j k hk => by cases hk⟩
theorem BkU.fut (h:BkU TB T U L B w b n S) (hf:Fut w w'):BkU TB T U L B w' b n S:=by
 obtain ⟨vs,hs,len,q1,q2⟩:=h;exact ⟨vs,hs,len,q1.fut hf,q2⟩
theorem BkU.more {S':Nat→Nat→Prop} (h:BkU TB T U L B w b n S) (hS:∀ j k,S j k→S' j k):BkU TB T U L B w b n S':=by
 obtain ⟨vs,hs,len,q1,q2,q3⟩:=h;exact ⟨vs,hs,len,q1,fun j k hk => hS j k (q2 j k hk),q3⟩
theorem BkU.put (h:BkU TB T U L B w b n S) (hA:Apt TB T) (hn:n<1000000000) {P:Program} {f:FuncId} {j:Nat} (h1:1≤j) (h2:j<32) (hu:U j) (hKp:KeepAt P TB f j (T j)) {A:Option Addr} {nl cl m:Nat} (hv:OwnL (T j).sz B (T j).e R0 w (.slice A nl cl) (List.replicate m none)) (hm:m≤L) (hap:∀ k,(Value.slice A nl cl).ownBlock=some k→¬ S j k) :
    Calls P f #[.pointer (some ⟨b,0,none⟩),.slice A nl cl] w fun e w' => (∃ u,e = .returned u)∧BkU TB T U L B w' b (n+1) (fun i k => S i k∨i=j∧(Value.slice A nl cl).ownBlock=some k)∧Only (fun k => b≤k) w w':=by
 obtain ⟨vs,hs,len,q1,q2,q3,q4,q5⟩:=h;have hbl:=q1.book.lt;refine (q1.put hA hn h1 h2 hKp hv fun k hk ho => hap k hk (q2 j k ho)).mono ?_;rintro e w' ⟨hu',vs',r1,r2,r3⟩;refine ⟨hu',⟨vs',_,_,r1,fun i k hk => ?_,fun i q hq => ?_,fun i hi => ?_,fun i k hk => ?_⟩,r2.mono fun k _ hk => ?_⟩
 ·by_cases hij:i=j
  ·subst hij;rw [if_pos rfl] at hk;rcases ownsL_snoc.1 hk with h9|h9
   ·exact .inl (q2 i k h9)
   ·exact .inr ⟨rfl,h9⟩
  ·rw [if_neg hij] at hk;exact .inl (q2 i k hk)
 ·by_cases hij:i=j
  ·subst hij;rw [if_pos rfl] at hq ⊢;rw [List.length_append,List.length_singleton] at hq
   by_cases hql:q=(hs i).length
   ·rw [if_pos hql];exact hm
   ·rw [if_neg hql];exact q3 i q (by omega)
  ·rw [if_neg hij] at hq ⊢;exact q3 i q hq
 ·by_cases hij:i=j
  ·subst hij;exact absurd hu hi
  ·rw [if_neg hij];exact q4 i hi
 ·rcases r3 i k hk with h9|h9
  ·exact q5 i k h9
  ·omega
 ·rcases hk with rfl|hk
  ·exact Nat.le_refl _
  ·exact q5 j k hk
end
end Go.Proofs.YtobabnpllokkaaaGreatDoor
