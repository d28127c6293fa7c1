/- Parts. -/
import Derived.WideKeyArr2
import Derived.Maps.Keyed
import Derived.Laws.StructEq
import Derived.Laws.Rows
import Derived.RangeFuncNested
import Derived.RangeFuncLeaves
import Derived.Deep.MidRow
import Derived.Shelf.Small.Bits
import Derived.Shelf.Small.Strs
import Derived.Shelf.Strconv.Itoa0
import Derived.Shelf.Strconv.Itoa1
import Derived.Shelf.LaysM
import Derived.Shelf.Strconv.Itoa2
import Derived.Shelf.Strconv.Itoa3
import Derived.Shelf.Sort.Plain
import Derived.Shelf.Slices.Turned
import Derived.Shelf.Slices.In.SortNone
import Derived.Ground.SlsfProg
import Derived.Shelf.SlSortCmp.Insertion
import Derived.Shelf.SlSortCmp.SiftDown1
import Derived.Shelf.SlSortCmp.HeapSort1
import Derived.Shelf.SlSortCmp.Insertion1
import Derived.Shelf.SlSortCmp.Median1
import Derived.Shelf.SlSortCmp.Pivot1
import Derived.Shelf.SlSortCmp.ReverseRange1
import Derived.Shelf.SlSortCmp.PartialInsertion1
import Derived.Shelf.SlSortCmp.PartitionEqual1
import Derived.Shelf.SlSortCmp.Partition1
import Derived.Shelf.SlSortCmp.Pdq1
import Derived.Shelf.SlSortCmp.Whole1
import Derived.Test.YtobabnpllokkaaaGreatDoorProg
import Derived.Test.YtobabnpllokkaaaGreatDoorRows
import Derived.WalkKit
import Derived.WalkSpells
import Derived.WalkLawsBesides
import Derived.ProofKit
import Derived.Lib.Hide
import Derived.Deep.RegionWith
import Derived.Lib.Bytealg
import Derived.Deep.QuietTactic
import Derived.BigQuiet
import Derived.Laws.RangeAny
import Derived.Lib.AppendStr
import Derived.Laws.CopyRow
import Derived.Laws.IdiomStrings
import Derived.OneCell
import Derived.Lib.ItoaNum
import Derived.Lib.Builder
import Derived.Lib.AppendIntMem
import Derived.Lib.LaidTab
import Derived.Lib.LaidU8
import Derived.Lay
import Derived.Lib.ParseIntB
import Derived.Lib.ParseIntBTie
import Derived.Laws.Pointers
import Derived.Test.YtobabnpllokkaaaGreatDoorP01
import Derived.Test.YtobabnpllokkaaaGreatDoorP00
set_option linter.unusedSimpArgs false
set_option linter.unusedVariables false
namespace Go.Proofs.YtobabnpllokkaaaGreatDoor
open Go.RowKit
section
variable {α:Type} {sz B M:Nat} {e ei:TypeId} {R R':World→List Value→α→Prop} {w w':World} {v u:Value} {xs ys:List α}
theorem OwnL.typed (h:OwnL sz B e R w v xs):∀ k,v.ownBlock=some k→∃ arr,w.heap[k]?=some (.cells arr e (0,0)):=by
 intro k hk;obtain ⟨css,h1,h2,h3,h4⟩:=h;rcases h4 with ⟨rfl,_⟩|⟨g,cap,cur,rfl,a2,a3,_⟩
 ·cases hk
 ·simp only [Value.ownBlock,Option.some.injEq] at hk;subst hk;exact ⟨cur,a3⟩
theorem OwnL.imp (h:OwnL sz B e R w v xs) (hR:∀ cs x,R w cs x→R' w cs x):OwnL sz B e R' w v xs:=by
 obtain ⟨css,h1,h2,h3⟩:=h;exact ⟨css,h1,fun i cs x hi hx => ⟨(h2 i cs x hi hx).1,hR _ _ (h2 i cs x hi hx).2⟩,h3⟩
theorem OwnL.base {B':Nat} (h:OwnL sz B e R w v xs) (hB:B'≤B):OwnL sz B' e R w v xs:=by
 obtain ⟨css,h1,h2,h3,h4⟩:=h;refine ⟨css,h1,h2,h3,?_⟩;rcases h4 with h4|⟨g,cap,cur,a1,a2,a3⟩
 ·exact .inl h4
 ·exact .inr ⟨g,cap,cur,a1,Nat.le_trans hB a2,a3⟩
def Keeps (e:TypeId) (R:World→List Value→α→Prop):Prop :=
 ∀ (w w':World) (row:Option Nat) (cs:List Value) (x:α),R w cs x→w.grownBy w' row→(∀ k,row=some k→∃ arr,w.heap[k]?=some (.cells arr e (0,0)))→R w' cs x
theorem OwnL.kept {row:Option Nat} (h:OwnL sz B ei R w v xs) (hR:∀ cs x,R w cs x→R w' cs x) (hg:w.grownBy w' row) (ht:∀ k,row=some k→∃ arr,w.heap[k]?=some (.cells arr e (0,0))) (hne:ei≠e):OwnL sz B ei R w' v xs:=by
 have hty:=h.typed;obtain ⟨css,h1,h2,h3⟩:=h;refine ⟨css,h1,fun i cs x hi hx => ⟨(h2 i cs x hi hx).1,hR _ _ (h2 i cs x hi hx).2⟩,h3.kept hg ?_⟩;cases hv:v.ownBlock with
 | none => exact .inl rfl
 | some k =>
  right
  intro hr;obtain ⟨arr,h5⟩:=hty k hv;obtain ⟨arr',h6⟩:=ht k hr.symm;rw [h5] at h6;injection h6 with h6
  injection h6 with _ h7
  exact hne h7
end
section
variable {B M:Nat} {e ev:TypeId} {w w':World} {v u:Value}
end
def cellsAt (css:List (List Value)) (z:List Value) (sz j:Nat):Value:=((css[j / sz]?).getD z).getD (j % sz) undef
theorem cellsAt_nil (z:List Value) (sz j:Nat):cellsAt [] z sz j=z.getD (j % sz) undef:=rfl
theorem cellsAt_get {css:List (List Value)} {z:List Value} {sz i j:Nat} {cs:List Value} {c:Value} (h:css[i]?=some cs) (hj:cs[j]?=some c) (hsz:j<sz):cellsAt css z sz (i * sz+j)=c:=by
 unfold cellsAt;rw [Nat.mul_comm,Nat.mul_add_div (by omega),Nat.div_eq_of_lt hsz,Nat.add_zero,h,Nat.mul_add_mod,Nat.mod_eq_of_lt hsz];simp [List.getD,hj]
def TwinE {α:Type} (sz:Nat) (e:TypeId) (z:List Value) (RE:Nat→World→List Value→α→Prop) (RM:World→List Value→Prop) (B:Nat) (w:World) (v:Value) (xs:List α):Prop :=
 ∃ (g:Nat) (css:List (List Value)),B≤g∧v = .slice (some ⟨g,0,none⟩) xs.length (xs.length+1)∧css.length=xs.length+1∧BlkF w g e ((xs.length+1) * sz) (cellsAt css z sz) ∧
  (∀ (i:Nat) (x:α) (cs:List Value),xs[i]?=some x→css[i]?=some cs→cs.length=sz∧RE (g+1) w cs x)∧∀ cs,css[xs.length]?=some cs→cs.length=sz∧RM w cs
theorem TwinE.fut {α:Type} {sz:Nat} {e:TypeId} {z:List Value} {RE:Nat→World→List Value→α→Prop} {RM:World→List Value→Prop} {B:Nat} {w w':World} {v:Value} {xs:List α}
    (hE:∀ g,Stays (RE g)) (hM:∀ w w' cs,Fut w w'→RM w cs→RM w' cs) (h:TwinE sz e z RE RM B w v xs) (hf:Fut w w'):TwinE sz e z RE RM B w' v xs:=by
 obtain ⟨g,css,h1,h2,h3,h4,h5,h6⟩:=h;exact ⟨g,css,h1,h2,h3,h4.fut hf,fun i x cs hx hc => ⟨(h5 i x cs hx hc).1,hE _ _ _ _ _ hf (h5 i x cs hx hc).2⟩,fun cs hc => ⟨(h6 cs hc).1,hM _ _ _ hf (h6 cs hc).2⟩⟩
theorem TwinE.rep {α:Type} {sz M:Nat} {e:TypeId} {z:List Value} {RE:Nat→World→List Value→α→Prop} {RM:World→List Value→Prop} {R:World→List Value→α→Prop} {B:Nat} {w:World} {v:Value} {xs:List α}
    (h:TwinE sz e z RE RM B w v xs) (hR:∀ g cs x,x ∈ xs→RE g w cs x→R w cs x) (hM:xs.length+1≤M):SlRep sz M R w v xs:=by
 obtain ⟨g,css,h1,rfl,h3,h4,h5,h6⟩:=h;refine ⟨_,_,rfl,Nat.le_succ _,hM,fun i x hx => ?_⟩;have hil:i<xs.length:=(List.getElem?_eq_some_iff.1 hx).1;have hc:css[i]?=some (css[i]'(by omega)):=List.getElem?_eq_getElem (by omega);obtain ⟨hl,hre⟩:=h5 i x _ hx hc;refine ⟨g,0,_,rfl,hl,fun j c hj => ?_,hR _ _ _ (List.mem_of_getElem? hx) hre⟩;have hjl:j<sz:=by rw [← hl];exact (List.getElem?_eq_some_iff.1 hj).1
 have hlt:i * sz+j<(xs.length+1) * sz:=by
  have:(i+1) * sz≤(xs.length+1) * sz:=Nat.mul_le_mul_right _ (by omega);rw [Nat.add_mul] at this;omega
 rw [Nat.zero_add,h4.cell hlt,cellsAt_get hc hj hjl]
end Go.Proofs.YtobabnpllokkaaaGreatDoor
namespace Go.Proofs.YtobabnpllokkaaaGreatDoor
open Go.RowKit Go.WideMaps Go.Maps
open Go.ChangeMaps (setBlock heap_setBlock_same heap_setBlock_other)
abbrev Rw:=List Int
section
variable {P:Program} {k e:TypeId}
end
end Go.Proofs.YtobabnpllokkaaaGreatDoor
namespace Go.Proofs.YtobabnpllokkaaaGreatDoor
open Go.RowKit
end Go.Proofs.YtobabnpllokkaaaGreatDoor
namespace Go.Proofs.YtobabnpllokkaaaGreatDoor
open Go.RowKit Go.WideMaps
structure Only (S:Nat→Prop) (w w':World):Prop where
 os:w'.os=w.os
 tape:w'.tape=w.tape
 output:w'.output=w.output
 size:w.heap.size≤w'.heap.size
 block:∀ k,k<w.heap.size→¬ S k→w'.heap[k]?=w.heap[k]?
theorem Only.fut {S:Nat→Prop} {w w':World} (h:Fut w w'):Only S w w':=⟨h.os,h.tape,h.output,h.size,fun k hk _ => Below.block h k hk⟩
theorem Only.toFut {S:Nat→Prop} {w w':World} (h:Only S w w') (hS:∀ k,S k→w.heap.size≤k):Fut w w':=⟨h.os,h.tape,h.output,h.size,fun k hk => h.block k hk fun hs => by have:=hS k hs;omega⟩
theorem Only.refl {S:Nat→Prop} (w:World):Only S w w:=Only.fut (Fut.refl w)
theorem Only.trans {S:Nat→Prop} {a b c:World} (h:Only S a b) (k:Only S b c):Only S a c :=
 ⟨k.os.trans h.os,k.tape.trans h.tape,k.output.trans h.output,Nat.le_trans h.size k.size,fun i hi hn => (k.block i (Nat.lt_of_lt_of_le hi h.size) hn).trans (h.block i hi hn)⟩
theorem Only.mono {S S':Nat→Prop} {w w':World} (h:Only S w w') (hS:∀ k,k<w.heap.size→S k→S' k):Only S' w w' :=
 ⟨h.os,h.tape,h.output,h.size,fun k hk hn => h.block k hk fun hs => hn (hS k hk hs)⟩
theorem Only.then {S S':Nat→Prop} {a b c:World} (h:Only S a b) (k:Only S' b c) (hS:∀ i,S' i→i<a.heap.size→S i):Only S a c :=
 ⟨k.os.trans h.os,k.tape.trans h.tape,k.output.trans h.output,Nat.le_trans h.size k.size,fun i hi hn => (k.block i (Nat.lt_of_lt_of_le hi h.size) (fun hs => hn (hS i hs hi))).trans (h.block i hi hn)⟩
theorem Only.grown {S:Nat→Prop} {w w':World} {row:Option Nat} (hg:w.grownBy w' row) (hS:∀ k,row=some k→S k):Only S w w' :=
 ⟨hg.os,hg.tape,hg.output,hg.size,fun k hk hn => hg.block k hk (fun e => hn (hS k e.symm))⟩
theorem Only.set {S:Nat→Prop} {w:World} (p:Addr) (v:Value) (hS:S p.block):Only S w (w.setCell p v) :=
 ⟨rfl,rfl,rfl,by show _≤(w.heap.modify _ _).size;rw [Array.size_modify];exact Nat.le_refl _,fun k hk hn => Below.heap_setCell w p v k (fun e => hn (e ▸ hS))⟩
theorem Only.put {S:Nat→Prop} {w:World} (g:Nat) (o:Obj) (hS:S g):Only S w (w.putObj g o) :=
 ⟨rfl,rfl,rfl,by simp [World.putObj],fun k hk hn => World.putObj_heap_other (fun e => hn (e ▸ hS))⟩
theorem Only.keeps {S:Nat→Prop} {w w':World} (h:Only S w w') {k:Nat} {o:Obj} (ho:w.heap[k]?=some o) (hn:¬ S k):w'.heap[k]?=some o :=
 (h.block k (Array.getElem?_eq_some_iff.1 ho).1 hn).trans ho
theorem Only.cell {S:Nat→Prop} {w w':World} (h:Only S w w') {p:Addr} {v:Value} (hc:w.cell? p=some v) (hn:¬ S p.block):w'.cell? p=some v :=
 (World.cell?_of_block (h.block p.block (lt_of_cell hc) hn)).trans hc
structure RowTy (P:Program) (k e:TypeId):Prop where
 A:ArrKey P k e 24
 he:P.underlying e=some (.int .i32)
 hsz:∃ m,P.types.size=m+1
 hi:(P.info? k).map (·.size)=some 24
section
variable {P:Program} {k e:TypeId} {w:World} {b off:Nat} {r:Rw} {o:Oper} {a:Act}
theorem wpList_of_run {ops:Array Oper} {rest:List Oper} {Q:Exit→Act→World→Prop} {v:Value} {w':World} (hgd:Region.wanted o (yielded ops a.tmps)=true)
    (hrun:(execOp a.eval o).run P w = .ok (.value v) w') (h:wpList P ops Q rest (a.put o.dst v) w'):wpList P ops Q (o :: rest) a w:=by
 refine wpList_step fun K hK => ?_;rw [if_pos hgd];unfold Oper.wp;rw [hrun];exact hK _ _ h
theorem wpList_of_skip {ops:Array Oper} {rest:List Oper} {Q:Exit→Act→World→Prop} {w':World} (hgd:Region.wanted o (yielded ops a.tmps)=true)
    (hrun:(execOp a.eval o).run P w = .ok .skip w') (h:wpList P ops Q rest (a.put o.dst undef) w'):wpList P ops Q (o :: rest) a w:=by
 refine wpList_step fun K hK => ?_;rw [if_pos hgd];unfold Oper.wp;rw [hrun];exact hK _ _ h
theorem setCells_put {t:TypeId} {fr:Nat×Nat}:∀ (vs:List Value) (o:Nat) (w:World) (arr:Array Value),w.heap[b]?=some (.cells arr t fr) →
    ∃ arr',w.setCells b o vs=w.putObj b (.cells arr' t fr)∧arr'.size=arr.size∧∀ j,arr'[j]?=if o≤j∧j<o+vs.length∧j<arr.size then vs[j - o]? else arr[j]?
 | [],o,w,arr,h => ⟨arr,by
     simp only [World.setCells,World.putObj];have hlt:=(Array.getElem?_eq_some_iff.1 h)
     obtain ⟨hl,he⟩:=hlt
     have:w.heap.setIfInBounds b (.cells arr t fr)=w.heap:=by
      refine Array.ext_getElem? fun i => ?_
      by_cases hi:i=b
      ·subst hi;rw [h];simp [hl]
      ·rw [Array.getElem?_setIfInBounds_ne (Ne.symm hi)]
     rw [this],rfl,fun j => by rw [if_neg (by simp;omega)]⟩
 | v :: vs,o,w,arr,h => by
  have hs:(w.setCell ⟨b,o,none⟩ v).heap[b]?=some (.cells (arr.setIfInBounds o v) t fr):=by simp [World.setCell,Array.getElem?_modify,h]
  obtain ⟨arr',h1,h2,h3⟩:=setCells_put vs (o+1) _ _ hs;refine ⟨arr',?_,by rw [h2];simp,fun j => ?_⟩
  ·simp only [World.setCells];rw [h1];simp only [World.putObj,World.setCell];congr 1;refine Array.ext_getElem? fun i => ?_
   by_cases hi:i=b
   ·subst hi;have hl:=(Array.getElem?_eq_some_iff.1 h).1;simp [hl]
   ·rw [Array.getElem?_setIfInBounds_ne (Ne.symm hi),Array.getElem?_setIfInBounds_ne (Ne.symm hi),Array.getElem?_modify,if_neg (Ne.symm hi)]
  ·rw [h3];simp only [Array.size_setIfInBounds,List.length_cons]
   by_cases h4:j=o
   ·subst h4;rw [if_neg (by omega)]
    by_cases h5:j<arr.size
    ·rw [if_pos (by omega)];simp [h5]
    ·rw [if_neg (by omega)];simp [h5]
   ·rw [Array.getElem?_setIfInBounds_ne (Ne.symm h4)]
    by_cases h5:o+1≤j∧j<o+1+vs.length∧j<arr.size
    ·rw [if_pos h5,if_pos (by omega),show j - o=(j - (o+1))+1 by omega,List.getElem?_cons_succ]
    ·rw [if_neg h5,if_neg (by omega)]
theorem putObj_alloc (w:World) (o o':Obj):(w.alloc o).putObj w.heap.size o'=w.alloc o':=by
 unfold World.putObj World.alloc;congr 1;refine Array.ext_getElem? fun j => ?_
 by_cases hj:j=w.heap.size
 ·subst hj;simp
 ·rw [Array.getElem?_setIfInBounds_ne (Ne.symm hj),Array.getElem?_push,Array.getElem?_push];simp [hj]
end
end Go.Proofs.YtobabnpllokkaaaGreatDoor
namespace Go.Proofs.YtobabnpllokkaaaGreatDoor
open Go.RowKit
theorem cellsAt_push {css:List (List Value)} {z cs:List Value} {sz j:Nat} (hs:∀ c ∈ css,c.length=sz) (hl:cs.length=sz) (hsz:0<sz) :
    cellsAt (css++[cs]) z sz j=if css.length * sz≤j∧j<css.length * sz+sz then cs.getD (j - css.length * sz) undef else cellsAt css z sz j:=by
 unfold cellsAt;have hdm:=Nat.div_add_mod j sz;have hml:=Nat.mod_lt j hsz;rcases Nat.lt_trichotomy (j / sz) css.length with h|h|h
 ·have h1:j<css.length * sz:=(Nat.div_lt_iff_lt_mul hsz).1 h;rw [if_neg (by omega),List.getElem?_append_left h]
 ·have h1:sz * (j / sz)=css.length * sz:=by rw [h,Nat.mul_comm]
  rw [if_pos (by omega),List.getElem?_append_right (by omega),h,Nat.sub_self];have h2:j % sz=j - css.length * sz:=by omega
  rw [h2];rfl
 ·have h1:css.length+1≤j / sz:=h;have h2:(css.length+1) * sz≤j:=(Nat.le_div_iff_mul_le hsz).1 h1;rw [Nat.add_mul,Nat.one_mul] at h2;rw [if_neg (by omega),List.getElem?_eq_none (by rw [List.length_append,List.length_singleton];omega),List.getElem?_eq_none (by omega)]
section
variable {w:World} {g N sz:Nat} {t:TypeId} {css:List (List Value)} {z cs:List Value}
theorem BlkF.row (h:BlkF w g t N (cellsAt css z sz)) (hs:∀ c ∈ css,c.length=sz) (hN:css.length * sz+sz≤N) (hl:cs.length=sz) (hsz:0<sz) :
    w.there g (css.length * sz) sz∧BlkF (w.setCells g (css.length * sz) cs) g t N (cellsAt (css++[cs]) z sz)∧Only (fun k => k=g) w (w.setCells g (css.length * sz) cs):=by
 obtain ⟨arr,h1,h2,h3⟩:=h;obtain ⟨arr',e1,e2,e3⟩:=setCells_put cs (css.length * sz) w arr h1;refine ⟨fun j hj => ⟨?_,?_⟩,?_,?_⟩
 ·simp [World.cell?,h1,h2];omega
 ·simp [World.frozen?,h1]
 ·refine ⟨arr',?_,by rw [e2,h2],fun j hj => ?_⟩
  ·rw [e1];have:=(Array.getElem?_eq_some_iff.1 h1).1;simp [World.putObj,this]
  ·rw [e3,cellsAt_push hs hl hsz,hl]
   by_cases hq:css.length * sz≤j∧j<css.length * sz+sz
   ·rw [if_pos ⟨hq.1,hq.2,by omega⟩,if_pos hq];have:j - css.length * sz<cs.length:=by omega
    simp [List.getD,this]
   ·rw [if_neg (fun p => hq ⟨p.1,p.2.1⟩),if_neg hq,h3 j hj]
 ·rw [e1];exact Only.put g _ rfl
theorem made_k (zc:List Value) (n j:Nat) (hz:0<zc.length) (hj:j<n):(madeCells zc.toArray n).getD j undef=cellsAt [] zc zc.length j:=by
 rw [cellsAt_nil];have hm:j % zc.length<zc.length:=Nat.mod_lt _ hz;simp [madeCells,hj,hm]
theorem blk_madeK (w:World) (zc:List Value) (n:Nat) (t:TypeId) (hz:0<zc.length):BlkF (w.alloc (.cells (madeCells zc.toArray (n * zc.length)) t)) w.heap.size t (n * zc.length) (cellsAt [] zc zc.length):=by
 have h:=BlkF.new w t (madeCells zc.toArray (n * zc.length));rw [size_madeCells] at h;exact h.congr fun j hj => made_k zc _ j hz hj
end
section
variable {P:Program} {ops:Array Oper} {rest:List Oper} {op:Oper} {a:Act} {w:World} {Q:Exit→Act→World→Prop} {g N sz o:Nat} {t:TypeId} {css:List (List Value)} {z:List Value}
theorem wpList_storeK (cs:List Value) (hgd:op.guard=none) (ty:TypeId) (x y:Operand) (ho:op.op = .store ty x y) (hx:a.eval x = .pointer (some ⟨g,o,none⟩)) (hy:a.eval y = .agg cs.toArray) (hb:BlkF w g t N (cellsAt css z sz)) (hs:∀ c ∈ css,c.length=sz) (ho2:o=css.length * sz) (hN:css.length * sz+sz≤N) (hl:cs.length=sz) (hsz:0<sz)
    (hi:(P.info? ty).map (·.size)=some sz) (h1:∀ v ∈ cs,v.oneCell'=true)
    (h:∀ w',BlkF w' g t N (cellsAt (css++[cs]) z sz)→Only (fun k => k=g) w w'→wpList P ops Q rest (a.put op.dst undef) w'):wpList P ops Q (op :: rest) a w:=by
 subst ho2;obtain ⟨a1,a2,a3⟩:=hb.row hs hN hl hsz;have hsz2:cs.toArray.size=sz:=by simpa using hl
 refine wpList_store_mid hgd ty x y ho g _ cs.toArray hx hy (by rw [hsz2];exact a1) (by rw [hsz2];exact hi) (all_oneCell_toArray h1) ?_;exact h _ a2 a3
end
theorem wpList_loadG {P:Program} {ops:Array Oper} {rest:List Oper} {op:Oper} {a:Act} {w:World} {Q:Exit→Act→World→Prop} (hgd:Region.wanted op (yielded ops a.tmps)=true) (ty:TypeId) (x:Operand) (ho:op.op = .load ty x)
    (b o:Nat) (hx:a.eval x = .pointer (some ⟨b,o,none⟩)) (cs:List Value) (d:TypeDesc) (hc:w.rangeAt b o cs)
    (hu:P.underlying ty=some d) (hd:d.isRow=true) (hi:(P.info? ty).map (·.size)=some cs.length)
    (h:wpList P ops Q rest (a.put op.dst (.agg cs.toArray)) w):wpList P ops Q (op :: rest) a w:=by
 refine wpList_step fun K hK => ?_;rw [if_pos hgd];exact wp_load_mid ty x ho b o hx cs d hc hu hd hi (hK _ _ h)
def cmpI (a b:Int):Int:=if a<b then -1 else if b<a then 1 else 0
structure Ord3 {α:Type} (c:α→α→Int):Prop where
 rng:∀ x y,c x y = -1∨c x y=0∨c x y=1
 swap:∀ x y,c y x = - c x y
 zero:∀ x y,c x y=0↔x=y
 tr:∀ x y z,c x y≤0→c y z≤0→c x z≤0
theorem Ord3.lt {α:Type} {c:α→α→Int} (h:Ord3 c) {x y z:α} (h1:c x y<0) (h2:c y z≤0):c x z<0:=by
 have h3:=h.tr x y z (by omega) h2;rcases Int.lt_or_eq_of_le h3 with h4|h4
 ·exact h4
 ·have e:=(h.zero x z).1 h4;subst e;have:=h.swap x y;omega
theorem Ord3.lt' {α:Type} {c:α→α→Int} (h:Ord3 c) {x y z:α} (h1:c x y≤0) (h2:c y z<0):c x z<0:=by
 have h3:=h.tr x y z h1 (by omega);rcases Int.lt_or_eq_of_le h3 with h4|h4
 ·exact h4
 ·have e:=(h.zero x z).1 h4;subst e;have:=h.swap x y;omega
theorem ordI:Ord3 cmpI:=by
 constructor
 ·intro x y;unfold cmpI;(repeat' split) <;> simp
 ·intro x y;unfold cmpI;(repeat' split) <;> omega
 ·intro x y;unfold cmpI;(repeat' split) <;> omega
 ·intro x y z;unfold cmpI;(repeat' split) <;> omega
def lcmp {α:Type} (c:α→α→Int):List α→List α→Int
 | [],[] => 0
 | [],_ :: _ => -1
 | _ :: _,[] => 1
 | x :: r,y :: q => if c x y≠0 then c x y else lcmp c r q
section
variable {α:Type} {c:α→α→Int} (h:Ord3 c)
include h
theorem lcmp_rng:∀ x y:List α,lcmp c x y = -1∨lcmp c x y=0∨lcmp c x y=1
 | [],[] => by simp [lcmp]
 | [],_ :: _ => by simp [lcmp]
 | _ :: _,[] => by simp [lcmp]
 | x :: r,y :: q => by
  simp only [lcmp]
  split
  ·exact h.rng _ _
  ·exact lcmp_rng r q
theorem lcmp_swap:∀ x y:List α,lcmp c y x = - lcmp c x y
 | [],[] => rfl
 | [],_ :: _ => rfl
 | _ :: _,[] => rfl
 | x :: r,y :: q => by
  simp only [lcmp];rw [h.swap x y,lcmp_swap r q]
  by_cases a:c x y=0 <;> simp [a]
theorem lcmp_zero:∀ x y:List α,lcmp c x y=0↔x=y
 | [],[] => by simp [lcmp]
 | [],_ :: _ => by simp [lcmp]
 | _ :: _,[] => by simp [lcmp]
 | x :: r,y :: q => by
  simp only [lcmp]
  by_cases a:c x y=0
  ·simp only [a,ne_eq,not_true_eq_false,if_false,lcmp_zero r q,List.cons.injEq];exact ⟨fun e => ⟨(h.zero _ _).1 a,e⟩,fun e => e.2⟩
  ·simp only [ne_eq,a,not_false_eq_true,if_true,List.cons.injEq];exact ⟨fun e => e.elim,fun e => absurd ((h.zero _ _).2 e.1) a⟩
theorem lcmp_tr:∀ x y z:List α,lcmp c x y≤0→lcmp c y z≤0→lcmp c x z≤0
 | [],_,[],_,_ => by simp [lcmp]
 | [],_,_ :: _,_,_ => by simp [lcmp]
 | _ :: _,[],_,h1,_ => by simp [lcmp] at h1
 | _ :: _,_ :: _,[],_,h2 => by simp [lcmp] at h2
 | x :: r,y :: q,z :: s,h1,h2 => by
  simp only [lcmp] at h1 h2 ⊢
  by_cases a:c x y=0
  ·by_cases b:c y z=0
   ·have e1:=(h.zero _ _).1 a;rw [e1,b];simp only [ne_eq,not_true_eq_false,if_false];rw [if_neg (by simpa using a)] at h1;rw [if_neg (by simpa using b)] at h2;exact lcmp_tr r q s h1 h2
   ·rw [if_pos b] at h2;have:=h.lt' (x:=x) (y:=y) (z:=z) (by omega) (by omega);rw [if_pos (by omega)];omega
  ·rw [if_pos a] at h1
   have hb:c y z≤0:=by
    by_cases b:c y z=0
    ·omega
    ·rwa [if_pos b] at h2
   have:=h.lt (x:=x) (y:=y) (z:=z) (by omega) hb;rw [if_pos (by omega)];omega
theorem lcmp_ord:Ord3 (lcmp c):=⟨lcmp_rng h,lcmp_swap h,lcmp_zero h,lcmp_tr h⟩
end
end Go.Proofs.YtobabnpllokkaaaGreatDoor
namespace Go.Proofs
open Go.Shelf
def Tryz.laysM171_ren:Go.Shelf.Ren:=⟨fun|171 => 205|243 => 259|246 => 292|283 => 319|284 => 320|285 => 321|286 => 322|129 => 289|317 => 341|318 => 342|319 => 343|320 => 344|337 => 356|338 => 357|n => n,fun|3 => 3|9 => 9|2 => 2|4 => 4|171 => 425|0 => 0|53 => 396|37 => 427|5 => 5|173 => 428|212 => 444|51 => 253|20 => 20|213 => 445|46 => 362|232 => 456|233 => 457|n => n,fun|17 => 1|18 => 2|19 => 3|n => n⟩
theorem Tryz.laysM171:Go.Proofs.LaysM.n171 Tryz.prog Tryz.laysM171_ren:={
 mixed:=by kernel_rfl
 f129:=Tryz.func289.trans (congrArg some (by kernel_rfl))
 f171:=Tryz.func205.trans (congrArg some (by kernel_rfl))
 f243:=Tryz.func259.trans (congrArg some (by kernel_rfl))
 f246:=Tryz.func292.trans (congrArg some (by kernel_rfl))
 f283:=Tryz.func319.trans (congrArg some (by kernel_rfl))
 f284:=Tryz.func320.trans (congrArg some (by kernel_rfl))
 f285:=Tryz.func321.trans (congrArg some (by kernel_rfl))
 f286:=Tryz.func322.trans (congrArg some (by kernel_rfl))
 f317:=Tryz.func341.trans (congrArg some (by kernel_rfl))
 f318:=Tryz.func342.trans (congrArg some (by kernel_rfl))
 f319:=Tryz.func343.trans (congrArg some (by kernel_rfl))
 f320:=Tryz.func344.trans (congrArg some (by kernel_rfl))
 f337:=Tryz.func356.trans (congrArg some (by kernel_rfl))
 f338:=Tryz.func357.trans (congrArg some (by kernel_rfl))
 t0:=Tryz.underlying0
 a0:=Tryz.isAgg0
 z0:=Tryz.sizeOf0
 v0:=Tryz.zeroValue0
 t2:=Tryz.underlying2
 a2:=Tryz.isAgg2
 z2:=Tryz.sizeOf2
 v2:=Tryz.zeroValue2
 t3:=Tryz.underlying3
 a3:=Tryz.isAgg3
 z3:=Tryz.sizeOf3
 v3:=Tryz.zeroValue3
 t4:=Tryz.underlying4
 a4:=Tryz.isAgg4
 z4:=Tryz.sizeOf4
 v4:=Tryz.zeroValue4
 t5:=Tryz.underlying5
 a5:=Tryz.isAgg5
 z5:=Tryz.sizeOf5
 v5:=Tryz.zeroValue5
 t9:=Tryz.underlying9
 a9:=Tryz.isAgg9
 z9:=Tryz.sizeOf9
 v9:=Tryz.zeroValue9
 t20:=Tryz.underlying20
 a20:=Tryz.isAgg20
 z20:=Tryz.sizeOf20
 v20:=Tryz.zeroValue20
 t37:=Tryz.underlying427
 a37:=Tryz.isAgg427
 z37:=Tryz.sizeOf427
 v37:=Tryz.zeroValue427
 t46:=Tryz.underlying362
 a46:=Tryz.isAgg362
 z46:=Tryz.sizeOf362
 v46:=Tryz.zeroValue362
 t51:=Tryz.underlying253
 a51:=Tryz.isAgg253
 z51:=Tryz.sizeOf253
 v51:=Tryz.zeroValue253
 t53:=Tryz.underlying396
 a53:=Tryz.isAgg396
 z53:=Tryz.sizeOf396
 v53:=Tryz.zeroValue396
 t171:=Tryz.underlying425
 a171:=Tryz.isAgg425
 z171:=Tryz.sizeOf425
 v171:=Tryz.zeroValue425
 t173:=Tryz.underlying428
 a173:=Tryz.isAgg428
 z173:=Tryz.sizeOf428
 v173:=Tryz.zeroValue428
 t212:=Tryz.underlying444
 a212:=Tryz.isAgg444
 z212:=Tryz.sizeOf444
 v212:=Tryz.zeroValue444
 t213:=Tryz.underlying445
 a213:=Tryz.isAgg445
 z213:=Tryz.sizeOf445
 t232:=Tryz.underlying456
 a232:=Tryz.isAgg456
 z232:=Tryz.sizeOf456
 v232:=Tryz.zeroValue456
 t233:=Tryz.underlying457
 a233:=Tryz.isAgg457
 z233:=Tryz.sizeOf457
 v233:=Tryz.zeroValue457
 g17:=by kernel_rfl
 g18:=by kernel_rfl
 g19:=by kernel_rfl
 i0:=by kernel_rfl
 i2:=by kernel_rfl
 i3:=by kernel_rfl
 i4:=by kernel_rfl
 i5:=by kernel_rfl
 i9:=by kernel_rfl
 i20:=by kernel_rfl
 i37:=by kernel_rfl
 i46:=by kernel_rfl
 i51:=by kernel_rfl
 i53:=by kernel_rfl
 i171:=by kernel_rfl
 i173:=by kernel_rfl
 i212:=by kernel_rfl
 i232:=by kernel_rfl
 i233:=by kernel_rfl
 m17:=by kernel_rfl
 m18:=by kernel_rfl
 m19:=by kernel_rfl }
open Go.RowKit Go.Sort Go.Lib in
theorem Tryz.strconv_Itoa (n:Int) (h0:-9223372036854775808≤n) (h1:n≤9223372036854775807) (w:World) (htab:Lib.TabIs Tryz.prog w "internal/strconv.uint64pow10" .u64 Lib.pow10Tab) :
    Calls Tryz.prog 205 #[.int .i64 n] w fun e w' => e = .returned (.string ⟨(Lib.itoa n).toArray⟩)∧∃ k os,w'=grow (w.drewN k) os:=Any.strconv_Itoa Tryz.laysM171 n h0 h1 w htab
end Go.Proofs
namespace Go.Proofs.YtobabnpllokkaaaGreatDoor
open Go.RowKit
theorem rV:Reads Tryz.prog 113 RV:=reads_V Tryz.underlying113 (by kernel_rfl) Tryz.underlying111 Tryz.underlying2 Tryz.underlying9 rfl rfl rfl (by kernel_rfl) (by kernel_rfl) (by kernel_rfl)
def chk (k n:Int) (s:ByteArray):Int:=if (k == 1)=true∧s.toList.isEmpty=true then 0 else if (k == 2)=true∧n=0∧s.size≤200 then 0 else 10
set_option maxHeartbeats 400000 in
theorem check_any (k n:Int) (s:ByteArray) (w:World) (hs:s.size≤140737488351232) :
    Calls Tryz.prog 362 #[.agg #[.int .i8 k,.int .i64 n,.string s]] w fun e w' => e = .returned (.int .i64 (chk k n s))∧Fut w w':=by
 go_enter Tryz.func362,Tryz.ntmps362;go_wp2
 all_goals go_ret
 all_goals refine ⟨?_,Fut.alloc _ _⟩
 all_goals (congr 2;unfold chk)
 all_goals simp_all
 all_goals omega
set_option maxHeartbeats 400000 in
theorem rcheck_any (k n:Int) (s:ByteArray) (w:World) (hs:s.size≤140737488351232) :
    Calls Tryz.prog 359 #[.agg #[.int .i8 k,.int .i64 n,.string s]] w fun e w' => e = .returned (.int .i64 (chk k n s))∧Fut w w':=by
 go_enter Tryz.func359,Tryz.ntmps359;go_wp2
 all_goals go_ret
 all_goals refine ⟨?_,Fut.alloc _ _⟩
 all_goals (congr 2;unfold chk)
 all_goals simp_all
 all_goals omega
theorem cmpBytes_less:∀ a b:List UInt8,Op.bytesLess a b=decide (Lib.compareBytes a b<0)
 | [],[] => rfl
 | [],_ :: _ => rfl
 | _ :: _,[] => rfl
 | a :: r,b :: q => by
  simp only [Lib.compareBytes,Op.bytesLess]
  by_cases h1:a<b
  ·simp [h1]
  ·by_cases h2:b<a
   ·have hne:¬ a=b:=fun e => by subst e;exact absurd h2 (UInt8.lt_irrefl _)
    simp [h1,h2,hne]
   ·have he:a=b:=UInt8.le_antisymm (UInt8.not_lt.1 h2) (UInt8.not_lt.1 h1);subst he;simp [h1,cmpBytes_less r q]
def cmpS (a b:ByteArray):Int:=Lib.compareBytes a.data.toList b.data.toList
instance:DecidableEq V:=fun x y =>
 if h:x.k=y.k∧x.n=y.n∧x.s.toList=y.s.toList then
  .isTrue (by obtain ⟨k,n,s⟩:=x;obtain ⟨k',n',s'⟩:=y;simp only at h;obtain ⟨rfl,rfl,h⟩:=h;rw [ByteArray.toList_eq,ByteArray.toList_eq] at h;rw [WideShapes.bytes_inj h])
 else .isFalse (fun e => h (by subst e;exact ⟨rfl,rfl,rfl⟩))
def parts:List Fc→Nat
 | [] => 0
 | f :: r => 1+f.a.length+parts r
def cmpU (a b:UInt8):Int:=if a<b then -1 else if b<a then 1 else 0
theorem ordU:Ord3 cmpU:=by
 have key:∀ a b,cmpU a b=cmpI a.toNat b.toNat:=fun a b => by
  unfold cmpU cmpI;simp only [UInt8.lt_iff_toNat_lt]
  (repeat' split) <;> omega
 constructor
 ·intro x y;rw [key];exact ordI.rng _ _
 ·intro x y;rw [key,key];exact ordI.swap _ _
 ·intro x y;rw [key,ordI.zero];exact ⟨fun e => UInt8.toNat_inj.1 (by omega),fun e => by rw [e]⟩
 ·intro x y z;rw [key,key,key];exact ordI.tr _ _ _
theorem cmpBytes_lcmp:∀ a b:List UInt8,Lib.compareBytes a b=lcmp cmpU a b
 | [],[] => rfl
 | [],_ :: _ => rfl
 | _ :: _,[] => rfl
 | a :: r,b :: q => by
  simp only [Lib.compareBytes,lcmp,cmpU]
  by_cases h1:a<b
  ·simp [h1]
  ·by_cases h2:b<a
   ·simp [h1,h2]
   ·simp [h1,h2,cmpBytes_lcmp r q]
theorem ordS:Ord3 cmpS:=by
 have h:=lcmp_ord ordU;have key:∀ a b,cmpS a b=lcmp cmpU a.data.toList b.data.toList:=fun a b => cmpBytes_lcmp _ _
 exact ⟨fun x y => by rw [key];exact h.rng _ _,fun x y => by rw [key,key];exact h.swap _ _,
  fun x y => by rw [key,h.zero];exact ⟨fun e => WideShapes.bytes_inj e,fun e => by rw [e]⟩,fun x y z => by rw [key,key,key];exact h.tr _ _ _⟩
def letterN (c:Nat):Bool:=(decide (97≤c) && decide (c≤122)) || (decide (65≤c) && decide (c≤90)) || (decide (48≤c) && decide (c≤57)) || c == 95
def keyB (l:List UInt8):Bool:=l == [110,111,116] || l == [99,111,117,110,116] || l == [115,117,109] || l == [109,105,110] || l == [109,97,120] || l == [108,101,110] || l == [99,104,97,114,115] || l == [98,97,99,107]
def nameV (s:ByteArray):Bool:=decide (0<s.size) && decide (s.size≤120) && (decide (97≤(s.data.getD 0 0).toNat) && decide ((s.data.getD 0 0).toNat≤122)) && s.data.toList.all (fun b => letterN b.toNat) && !keyB s.toList
theorem head_at (s:ByteArray) (h:0<s.size):s.data[0]?.getD 0=s[0]:=by
 have:0<s.data.size:=h;rw [Array.getElem?_eq_getElem this];rfl
set_option maxHeartbeats 1000000 in
theorem letter_any (c:Nat) (hc:c<256) (w:World):Calls Tryz.prog 358 #[.int .u8 c] w fun e w' => e = .returned (.bool (letterN c))∧w'=w:=by
 by_cases h95:c=95
 ·subst h95;go_enter Tryz.func358,Tryz.ntmps358;go_wp2;go_ret;exact ⟨rfl,rfl⟩
 ·have d:((c:Int) == 95)=false:=by simp;omega
  go_enter Tryz.func358,Tryz.ntmps358;go_wp2
  all_goals go_ret
  all_goals refine ⟨?_,rfl⟩
  all_goals simp [letterN,h95]
  all_goals first|omega|(rw [Bool.eq_iff_iff];simp;omega)
set_option maxHeartbeats 1000000 in
theorem keyword_any (s:ByteArray) (w:World):Calls Tryz.prog 346 #[.string s] w fun e w' => e = .returned (.bool (keyB s.toList))∧w'=w:=by
 go_enter Tryz.func346,Tryz.ntmps346;go_wp2
 all_goals go_ret
 all_goals refine ⟨?_,rfl⟩
 all_goals unfold keyB
 all_goals simp_all
def hx (n:Nat):UInt8:=if n<10 then UInt8.ofNat (48+n) else UInt8.ofNat (87+n)
def wroteV (lo hi:Nat) (s:ByteArray):Bool:=decide (0<s.size) && decide (s.size≤120) && (decide (lo≤(s.data.getD 0 0).toNat) && decide ((s.data.getD 0 0).toNat≤hi)) && s.data.toList.all (fun b => letterN b.toNat)
theorem nameV_eq (s:ByteArray):nameV s=(wroteV 97 122 s && !keyB s.toList):=rfl
set_option maxHeartbeats 1600000 in
set_option maxRecDepth 100000 in
theorem written_any (s:ByteArray) (lo hi:Nat) (w:World) (hs:s.size≤140737488351232) (hlo:∀ c,lo≤c→c≤hi→letterN c=true) (h256:lo<256∧hi<256) :
    Calls Tryz.prog 345 #[.string s,.int .u8 lo,.int .u8 hi] w fun e w' => e = .returned (.bool (wroteV lo hi s))∧w'=w:=by
 have hlow:Hid (∀ (h:0<s.size),wroteV lo hi s=true→lo≤s[0].toNat∧s[0].toNat≤hi∧s.size≤120):=Hh fun h hn => by
  simp [wroteV] at hn;rw [show s.data[0]?.getD 0=s[0] from head_at s h] at hn;omega
 have hmk:Hid (∀ (h:0<s.size),lo≤s[0].toNat→s[0].toNat≤hi→s.size≤120→s.data.toList.all (fun b => letterN b.toNat)=true→wroteV lo hi s=true):=Hh fun h h1 h2 h3 h4 => by
  unfold wroteV;rw [h4];simp [h,h3,head_at s h];exact ⟨h1,h2⟩
 have hnil:Hid (s.size=0→wroteV lo hi s=false):=Hh fun h => by simp [wroteV,h]
 have hall:Hid (∀ k (hk:k<s.size),letterN s[k].toNat=false→wroteV lo hi s=false):=Hh fun k hk h => by
  have:s.data.toList.all (fun b => letterN b.toNat)=false:=by
   rw [List.all_eq_false];exact ⟨s[k],Array.mem_toList_iff.2 (Array.getElem_mem (xs:=s.data) hk),by simp [h]⟩
  unfold wroteV;rw [this];simp
 have HLO:=Hh hlo;clear hlo;generalize wroteV lo hi s=R at *
 by_cases c0:s.size=0
 ·have e0:(s.size:Int)<1:=by omega
  have hr:=Hh (hnil.out c0);clear c0;go_enter Tryz.func345,Tryz.ntmps345;go_wp2;go_ret;exact ⟨by rw [hr.out];rfl,rfl⟩
 ·have hpos:0<s.size:=by omega
  have e0:¬ (s.size:Int)<1:=by omega
  clear c0
  by_cases c1:(120:Int)<s.size
  ·have hr:=Hh (show R=false by
     cases hn:R with
     | false => rfl
     | true => have:=hlow.out hpos hn;omega)
   go_enter Tryz.func345,Tryz.ntmps345;go_wp2;go_ret;exact ⟨by rw [hr.out];rfl,rfl⟩
  ·by_cases c2:((s[0]).toNat:Int)<lo
   ·have hr:=Hh (show R=false by
      cases hn:R with
      | false => rfl
      | true => have:=hlow.out hpos hn;omega)
    go_enter Tryz.func345,Tryz.ntmps345;go_wp2;go_ret;exact ⟨by rw [hr.out];rfl,rfl⟩
   ·by_cases c3:(hi:Int)<(s[0]).toNat
    ·have hr:=Hh (show R=false by
       cases hn:R with
       | false => rfl
       | true => have:=hlow.out hpos hn;omega)
     go_enter Tryz.func345,Tryz.ntmps345;go_wp2;go_ret;exact ⟨by rw [hr.out];rfl,rfl⟩
    ·have hmk':=Hh (hmk.out hpos (by omega) (by omega) (by omega));have hg0:=Hh (HLO.out s[0].toNat (by omega) (by omega));clear hmk hlow hnil;go_enter Tryz.func345,Tryz.ntmps345;go_wp2;go_loop [7] (fun i => ∃ k:Nat,1≤k∧k≤s.size∧i = .int .i64 k∧Hid (∀ j (hj:j<s.size),j<k→letterN (s[j]).toNat=true)) (fun i => s.size - (intOf i).toNat)
     case atStart =>
      have h1':∀ j (hj:j<s.size),j<1→letterN (s[j]).toNat=true:=by
       intro j hj h;have e:j=0:=by omega
       subst e;exact hg0.out
      exact ⟨1,Nat.le_refl _,hpos,rfl,Hh h1'⟩
     case round =>
      obtain ⟨k,hk1,hk,rfl,hg⟩:=hrel
      by_cases hlt:k<s.size
      ·have hc:=letter_any s[k].toNat (UInt8.toNat_lt _) w
       have hs1:=Hh (fun h:letterN (s[k]).toNat=true => (fun j hj hjk => by
        rcases Nat.lt_or_ge j k with h'|h'
        ·exact hg.out j hj h'
        ·obtain rfl:j=k:=by omega
         exact h:∀ j (hj:j<s.size),j<k+1→letterN (s[j]).toNat=true))
       have hs2:=Hh (hall.out k hlt);cases hl2:letterN s[k].toNat with
       | true =>
        rw [hl2] at hc;have HC:=Hh hc;have hs3:=Hh (hs1.out hl2);clear hc hl2 hs1 hs2;go_wp2_with fail;refine HC.out.mono ?_;rintro e w1 ⟨rfl,rfl⟩;go_wp2;exact ⟨⟨k+1,by omega,by omega,by go_num,hs3⟩,by simp [intOf];omega⟩
       | false =>
        rw [hl2] at hc;have HC:=Hh hc;have hr:=Hh (hs2.out hl2);clear hc hl2 hs1 hs2;go_wp2_with fail;refine HC.out.mono ?_;rintro e w1 ⟨rfl,rfl⟩;go_wp2;go_ret;exact ⟨by rw [hr.out];rfl,rfl⟩
      ·obtain rfl:k=s.size:=by omega
       have hr:=Hh (hmk'.out (by
        rw [List.all_eq_true];intro b hb;obtain ⟨j,hj⟩:=List.getElem?_of_mem hb;have hjl:=(List.getElem?_eq_some_iff.1 hj).1;have:=hg.out j (by simpa using hjl) (by simpa using hjl)
        have e:b=s[j]'(by simpa using hjl):=by
         have:=(List.getElem?_eq_some_iff.1 hj).2;rw [← this];rfl
        rw [e];exact this))
       go_wp2;go_ret;exact ⟨by rw [hr.out];rfl,rfl⟩
set_option maxHeartbeats 1000000 in
theorem rname_any (s:ByteArray) (w:World) (hs:s.size≤140737488351232) :
    Calls Tryz.prog 323 #[.string s] w fun e w' => e = .returned (.bool (nameV s))∧Fut w w':=by
 have hw:=written_any s 97 122 w hs (fun c h1 h2 => by simp [letterN,h1,h2]) (by omega);have hk:=Hh (keyword_any s);have hr:=Hh (nameV_eq s);cases h:wroteV 97 122 s with
 | true =>
  rw [h] at hw hr;have HW:=Hh hw;clear hw h;generalize nameV s=R at hr ⊢;generalize keyB s.toList=K at hk hr;go_enter Tryz.func323,Tryz.ntmps323;go_wp2_with fail;refine HW.out.mono ?_;rintro e w1 ⟨rfl,rfl⟩;go_wp2_with fail;refine (hk.out _).mono ?_;rintro e w1 ⟨rfl,rfl⟩;go_wp2
  all_goals go_ret
  all_goals exact ⟨by rw [hr.out];simp,Fut.refl _⟩
 | false =>
  rw [h] at hw hr;have HW:=Hh hw;clear hw h;generalize nameV s=R at hr ⊢;go_enter Tryz.func323,Tryz.ntmps323;go_wp2_with fail;refine HW.out.mono ?_;rintro e w1 ⟨rfl,rfl⟩;go_wp2;go_ret;exact ⟨by rw [hr.out];rfl,Fut.refl _⟩
def Pows (w:World):Prop:=Lib.TabIs Tryz.prog w "internal/strconv.uint64pow10" .u64 Lib.pow10Tab
theorem var_fut {P:Program} {w w':World} {n:String} {cs:Array Value} (h:w.var? P n=some cs) (hf:Fut w w'):w'.var? P n=some cs:=by
 unfold World.var? at h ⊢;cases hg:P.globalNamed n with
 | none => simp [hg] at h
 | some g =>
  simp only [hg,Option.bind_some] at h ⊢
  have hlt:g<w.heap.size:=by
   rcases Nat.lt_or_ge g w.heap.size with h'|h'
   ·exact h'
   ·simp [Array.getElem?_eq_none h'] at h
  rw [Below.block hf g hlt];exact h
theorem Pows.fut {w w':World} (h:Pows w) (hf:Fut w w'):Pows w':=var_fut (P:=Tryz.prog) h hf
theorem fut_grow (w:World) (k:Nat) (os:Array Obj):Fut w (Sort.grow (w.drewN k) os) :=
 ⟨rfl,rfl,rfl,by simp [Sort.grow,World.drewN],fun j hj => by
  show (w.heap++os)[j]?=_;rw [Array.getElem?_append_left hj]⟩
theorem pows_of_laid {W:World} {l:List (String×DataW Unit)} (h:laidMet Tryz.prog l W) (hm:("internal/strconv.uint64pow10",Rows.laid_internal_strconv_uint64pow10) ∈ l):Pows W:=by
 obtain ⟨g,t,cs,fuel,p,hg,ht,hvar,hd⟩:=Lib.laidMet.reads h hm;obtain rfl:=Option.some.inj ((show Tryz.prog.globalNamed "internal/strconv.uint64pow10"=some 1 by kernel_rfl).symm.trans hg);obtain rfl:=Option.some.inj ((show (Tryz.prog.globals[1]?).map (·.type)=some 444 by kernel_rfl).symm.trans ht)
 have hcs:cs.toList=Lib.pow10Tab.map fun z => Value.int .u64 z :=
  Lib.cells_of_tab (k:=.u64) (zs:=Lib.pow10Tab) Tryz.underlying444 Tryz.underlying396 (by kernel_rfl) (by kernel_rfl) hd
 unfold Pows Lib.TabIs;rw [hvar,← hcs]
end Go.Proofs.YtobabnpllokkaaaGreatDoor
namespace Go.Proofs.YtobabnpllokkaaaGreatDoor
open Go.RowKit Go.Lib
theorem dec_len:∀ (k u:Nat),u<10 ^ k→(decDigits u).length≤k+1
 | 0,u,h => by rw [decDigits,dif_pos (by simp at h;omega)];simp
 | k+1,u,h => by
  by_cases h1:u<10
  ·rw [decDigits,dif_pos h1];simp
  ·rw [decDigits,dif_neg h1];have:=dec_len k (u / 10) (by rw [Nat.pow_succ] at h;omega);simp;omega
theorem itoa_len (n:Int) (h:-9223372036854775808≤n∧n≤9223372036854775807):(itoa n).length≤30:=by
 unfold itoa
 split
 ·have:=dec_len 20 n.natAbs (by omega);simp;omega
 ·have:=dec_len 20 n.toNat (by omega);omega
end Go.Proofs.YtobabnpllokkaaaGreatDoor
namespace Go.Proofs.YtobabnpllokkaaaGreatDoor
open Go.RowKit
def wordS:ByteArray:=⟨#[35]⟩++⟨(Lib.itoa 777777).toArray⟩
set_option maxHeartbeats 400000 in
theorem word_any' (w:World) (hP:Pows w):Calls Tryz.prog 89 #[.int .i64 777777] w fun e w' => e = .returned (.string wordS)∧Fut w w':=by
 have HI:Hid (Calls Tryz.prog 205 #[.int .i64 777777] w fun e w' => e = .returned (.string ⟨(Lib.itoa 777777).toArray⟩)∧Fut w w') :=
  Hh ((Tryz.strconv_Itoa 777777 (by omega) (by omega) w hP).mono fun e w' ⟨h,k,os,hw⟩ => ⟨h,hw ▸ fut_grow w k os⟩)
 have hsz:(⟨(Lib.itoa 777777).toArray⟩:ByteArray).size≤30:=by
  rw [Lib.size_eq];exact itoa_len 777777 (by omega)
 unfold wordS;generalize (⟨(Lib.itoa 777777).toArray⟩:ByteArray)=t at HI hsz ⊢;have h1:(⟨#[35]⟩:ByteArray).size=1:=rfl;go_enter Tryz.func89,Tryz.ntmps89;go_wp2_with fail;refine HI.out.mono ?_;rintro e w1 ⟨rfl,h1⟩;go_wp2;go_ret;exact ⟨rfl,h1⟩
end Go.Proofs.YtobabnpllokkaaaGreatDoor
namespace Go.Proofs.YtobabnpllokkaaaGreatDoor
open Go.RowKit Go.ChangeShapes Go.WideShapes Go.ChangeAt Go.Deep
def ReadsD {α:Type} (k:Nat) (P:Program) (t:TypeId) (R:World→List Value→α→Prop):Prop :=
 ∀ (H:Type) (enc:TypeId×Value→H) (w:World) (base:Nat) (held:Bool) (fuel:Nat) (cs:List Value) (x:DataW H×List MemPlace),DataW.trod enc P w base (fun _ => true) held fuel t cs=some x →
  (∀ n ∈ x.1.weights P t,n≤reachBytes)→SizeOf.sizeOf x.1<k→∃ d,R w cs d
theorem reads_ofD {α:Type} {P:Program} {t:TypeId} {R:Nat→World→List Value→α→Prop} (h:∀ k,ReadsD k P t (R k)):Reads P t (fun w cs d => ∃ k,R k w cs d):=fun H enc w base held fuel cs x hx hn => by
 obtain ⟨d,hd⟩:=h _ H enc w base held fuel cs x hx hn (Nat.lt_succ_self _);exact ⟨d,_,hd⟩
theorem readsD_slice {α:Type} {P:Program} {t e:TypeId} {sz M:Nat} {R:World→List Value→α→Prop} (ht:P.underlying t=some (.slice e)) (hc:P.cellsOf e=sz) (h0:0<sz) (hM:∀ c,c * P.bytesOf e≤reachBytes→c≤M) {k:Nat} (hR:ReadsD k P e R):ReadsD k P t (SlR sz M R):=by
 intro H enc w base held fuel cs x h hn hsz;rcases open_slice ht h with ⟨h1,_⟩|⟨a,len,cap,m,n,D,Pl,hcs,hb,hl,hm,hmm,hx,hi⟩
 ·exact ⟨[],_,h1,SlRep.nil⟩
 ·have hlm:len≤m:=by rw [hmm];simp;exact hl
  have hmc:m=cap:=by rw [hmm];simp
  have hw:x.1.weights P t=(len+(cap - len)) * P.bytesOf e :: (DataW.weightsAll P e ((List.range len).map D)++DataW.weightsAll P e ((List.range (m - len)).map fun j => D (len+j))):=by
   rw [hx];simp [DataW.weights,ht,hmc]
  have hcap:cap≤M:=hM cap (by
   have:=hn ((len+(cap - len)) * P.bytesOf e) (by rw [hw];simp)
   rwa [show len+(cap - len)=cap by omega] at this)
  obtain ⟨xs,hxl,hxs⟩:=exists_list (p:=fun i x => ∃ b off cs',some a=some ⟨b,off,none⟩∧cs'.length=sz∧(∀ j c,cs'[j]?=some c→w.cell? ⟨b,off+(i * sz+j),none⟩=some c)∧R w cs' x) len fun i hil => by
   obtain ⟨cs',h1,h2⟩:=hi i (by omega)
   obtain ⟨y,hy⟩:=hR H enc w base held n cs' _ h2 (fun k hk => hn k (by
    rw [hw];refine List.mem_cons_of_mem _ (List.mem_append_left _ (weightsAll_mem (d:=D i) ?_ k hk))
    exact List.mem_map.2 ⟨i,List.mem_range.2 hil,rfl⟩)) (Nat.lt_trans (by
     rw [hx];have h9:SizeOf.sizeOf (D i)<SizeOf.sizeOf ((List.range len).map D):=List.sizeOf_lt_of_mem (List.mem_map.2 ⟨i,List.mem_range.2 hil,rfl⟩);show SizeOf.sizeOf (D i)<SizeOf.sizeOf (DataW.slice ((List.range len).map D) ((List.range (m - len)).map fun j => D (len+j)));rw [DataW.slice.sizeOf_spec];omega) hsz)
   rw [hc] at h1;obtain ⟨_,hlen,hcell⟩:=World.cells?_some h1;obtain ⟨ab,ao,asp⟩:=a
   have hsp:asp=none∨∀ j,j<sz→False:=by
    cases asp with
    | none => exact .inl rfl
    | some q =>
     right
     intro j hj;have h0':=(hi 0 (by omega))
     obtain ⟨cs0,hz0,_⟩:=h0';rw [hc] at hz0;obtain ⟨_,hlen0,hcell0⟩:=World.cells?_some hz0;have:=hcell0 0 h0;rw [List.getElem?_eq_getElem (by omega)] at this;unfold World.cell? Addr.add at this;simp at this
     split at this <;> simp at this
   rcases hsp with rfl|hsp
   ·refine ⟨y,ab,ao,cs',rfl,hlen,fun j c hj => ?_,hy⟩;have hjl:j<sz:=by rw [← hlen];exact (List.getElem?_eq_some_iff.1 hj).1
    have:=hcell j hjl;rw [hj] at this;rw [← this];congr 1;unfold Addr.add
    by_cases h1':i * sz=0 <;> by_cases h2':j=0 <;> simp [h1',h2',Nat.add_assoc]
   ·exact (hsp 0 h0).elim
  exact ⟨xs,_,hcs,some a,cap,by rw [hxl],by omega,hcap,hxs⟩
theorem readsD_field {α:Type} {P:Program} {f:Field} {R:World→List Value→α→Prop} {H:Type} {enc:TypeId×Value→H} {w:World} {base:Nat} {held:Bool} {t:TypeId} {fs:Array Field} {fuel:Nat} {cs:List Value} {x:DataW H×List MemPlace}
    (hs:P.underlying t=some (.struct fs)) (h:DataW.trod enc P w base (fun _ => true) held fuel t cs=some x) (hn:∀ n ∈ x.1.weights P t,n≤reachBytes) (i:Nat) (hi:fs[i]?=some f) {k:Nat} (hk:SizeOf.sizeOf x.1<k+1) (hR:ReadsD k P f.type R) :
    ∃ d,R w ((cs.drop f.offset).take (P.cellsOf f.type)) d:=by
 obtain ⟨xs,n,_,hx,_,hl,hf⟩:=DataW.trod_struct hs h;have h1:=hf i f hi;have hil:i<fs.size:=(Array.getElem?_eq_some_iff.1 hi).1;have hxi:xs[i]?=some (xs[i]'(by omega)):=List.getElem?_eq_getElem (by omega);rw [hxi] at h1
 have hsz:SizeOf.sizeOf (xs[i]'(by omega)).1<k:=by
  have h9:SizeOf.sizeOf (xs[i]'(by omega)).1<SizeOf.sizeOf (xs.map (·.1)):=List.sizeOf_lt_of_mem (List.mem_map.2 ⟨_,List.getElem_mem (by omega),rfl⟩);rw [hx,DataW.agg.sizeOf_spec] at hk;omega
 refine hR H enc w base held n _ _ h1 (fun k hk => hn k ?_) hsz;rw [hx];simp only [DataW.weights,hs];refine DataW.weights_mem_each (j:=i) (t:=f.type) (d:=(xs[i]'(by omega)).1) ?_ (by simp [hxi]) k hk;have:fs.toList[i]?=some f:=by simpa using hi
 simp [this]
structure Tm where
 v:ByteArray
 x:V
def Tm.cells (t:Tm):List Value:=[.string t.v,.int .i8 t.x.k,.int .i64 t.x.n,.string t.x.s]
def Tm.ok (t:Tm):Prop:=t.v.size≤140737488351232∧t.x.ok
def RTm (_:World) (cs:List Value) (t:Tm):Prop:=cs=t.cells∧t.ok
theorem RTm.stays:Stays RTm:=fun _ _ _ _ _ h => h
inductive Ex where
 | mk (op:Int) (t:Tm) (kids:List Ex)
def RE:Nat→World→List Value→Ex→Prop
 | 0,_,_,_ => False
 | n+1,w,cs,.mk op t kids => ∃ kv,cs=[.int .i8 op,.string t.v,.int .i8 t.x.k,.int .i64 t.x.n,.string t.x.s,kv]∧(Lit.int .i8 op).wf=true∧t.ok∧SlRep 6 1759218604441 (RE n) w kv kids
theorem RE.stays:∀ n,Stays (RE n)
 | 0 => fun _ _ _ _ _ h => h
 | n+1 => fun w w' cs x hf h => by
  obtain ⟨op,t,kids⟩:=x;obtain ⟨kv,h1,h2,h3,h4⟩:=h;exact ⟨kv,h1,h2,h3,h4.fut (RE.stays n) hf⟩
theorem RE.mono:∀ {n m:Nat} (_:n≤m) {w:World} {cs:List Value} {x:Ex},RE n w cs x→RE m w cs x
 | 0,_,_,_,_,_,h => h.elim
 | n+1,m,hm,w,cs,x,h => by
  obtain ⟨op,t,kids⟩:=x;obtain ⟨m',rfl⟩:∃ m',m=m'+1:=⟨m - 1,by omega⟩
  obtain ⟨kv,h1,h2,h3,h4⟩:=h;exact ⟨kv,h1,h2,h3,h4.imp fun cs x hx => RE.mono (by omega) hx⟩
def RX (w:World) (cs:List Value) (x:Ex):Prop:=∃ n,RE n w cs x
theorem RX.stays:Stays RX:=fun _ _ _ _ hf ⟨n,h⟩ => ⟨n,RE.stays n _ _ _ _ hf h⟩
structure Lt where
 k:Int
 p:ByteArray
 a:List Tm
 r:Int
 l:Ex
 d:Ex
def RLt (w:World) (cs:List Value) (x:Lt):Prop :=
 ∃ av cl cd,cs = .int .i8 x.k :: .string x.p :: av :: .int .i8 x.r :: (cl++cd)∧cl.length=6∧cd.length=6∧(Lit.int .i8 x.k).wf=true∧(Lit.int .i8 x.r).wf=true∧x.p.size≤140737488351232∧SlRep 4 2932031007402 RTm w av x.a∧RX w cl x.l∧RX w cd x.d
theorem RLt.stays:Stays RLt:=fun _ _ _ _ hf ⟨av,cl,cd,h1,h2,h3,h4,h5,h6,h7,h8,h9⟩ => ⟨av,cl,cd,h1,h2,h3,h4,h5,h6,h7.fut RTm.stays hf,RX.stays _ _ _ _ hf h8,RX.stays _ _ _ _ hf h9⟩
structure Ar where
 g:Int
 t:Tm
def RAr (_:World) (cs:List Value) (x:Ar):Prop:=cs = .int .i8 x.g :: x.t.cells∧(Lit.int .i8 x.g).wf=true∧x.t.ok
theorem RAr.stays:Stays RAr:=fun _ _ _ _ _ h => h
structure Ru where
 p:ByteArray
 h:List Ar
 b:List Lt
def RRu (w:World) (cs:List Value) (x:Ru):Prop:=∃ hv bv,cs=[.string x.p,hv,bv]∧x.p.size≤140737488351232∧SlRep 5 2513169434916 RAr w hv x.h∧SlRep 16 651562446089 RLt w bv x.b
theorem RRu.stays:Stays RRu:=fun _ _ _ _ hf ⟨hv,bv,h1,h2,h3,h4⟩ => ⟨hv,bv,h1,h2,h3.fut RAr.stays hf,h4.fut RLt.stays hf⟩
set_option maxRecDepth 10000
theorem cS:Tryz.prog.cellsOf 9=1:=by kernel_rfl
theorem cVal:Tryz.prog.cellsOf 113=3:=by kernel_rfl
theorem cTm:Tryz.prog.cellsOf 115=4:=by kernel_rfl
theorem cEx:Tryz.prog.cellsOf 118=6:=by kernel_rfl
theorem cAt:Tryz.prog.cellsOf 108=2:=by kernel_rfl
theorem cLt:Tryz.prog.cellsOf 120=16:=by kernel_rfl
theorem cAr:Tryz.prog.cellsOf 190=5:=by kernel_rfl
theorem cRu:Tryz.prog.cellsOf 82=3:=by kernel_rfl
theorem cOp:Tryz.prog.cellsOf 110=1:=by kernel_rfl
theorem cLk:Tryz.prog.cellsOf 105=1:=by kernel_rfl
theorem cRl:Tryz.prog.cellsOf 109=1:=by kernel_rfl
theorem cAg:Tryz.prog.cellsOf 188=1:=by kernel_rfl
theorem cEs:Tryz.prog.cellsOf 116=1:=by kernel_rfl
theorem cTs:Tryz.prog.cellsOf 106=1:=by kernel_rfl
theorem cAs:Tryz.prog.cellsOf 79=1:=by kernel_rfl
theorem cLs:Tryz.prog.cellsOf 80=1:=by kernel_rfl
theorem bEx:Tryz.prog.bytesOf 118=80:=by kernel_rfl
theorem bTm:Tryz.prog.bytesOf 115=48:=by kernel_rfl
theorem bLt:Tryz.prog.bytesOf 120=216:=by kernel_rfl
theorem bAr:Tryz.prog.bytesOf 190=56:=by kernel_rfl
theorem bRu:Tryz.prog.bytesOf 82=64:=by kernel_rfl
theorem field_at {α:Type} {P:Program} {f:Field} {R:World→List Value→α→Prop} {H:Type} {enc:TypeId×Value→H} {w:World} {base:Nat} {held:Bool} {t ty:TypeId} {fs:Array Field} {fuel o n:Nat} {cs:List Value} {x:DataW H×List MemPlace}
    (hs:P.underlying t=some (.struct fs)) (h:DataW.trod enc P w base (fun _ => true) held fuel t cs=some x) (hn:∀ n ∈ x.1.weights P t,n≤reachBytes) (i:Nat) (hi:fs[i]?=some f) (ho:f.offset=o) (hty:f.type=ty) (hc:P.cellsOf ty=n) (hR:Reads P ty R) :
    ∃ d,R w ((cs.drop o).take n) d:=by
 subst ho;subst hty;subst hc;exact reads_field hs h hn i hi hR
theorem fieldD_at {α:Type} {P:Program} {f:Field} {R:World→List Value→α→Prop} {H:Type} {enc:TypeId×Value→H} {w:World} {base:Nat} {held:Bool} {t ty:TypeId} {fs:Array Field} {fuel o n:Nat} {cs:List Value} {x:DataW H×List MemPlace}
    (hs:P.underlying t=some (.struct fs)) (h:DataW.trod enc P w base (fun _ => true) held fuel t cs=some x) (hn:∀ n ∈ x.1.weights P t,n≤reachBytes) (i:Nat) (hi:fs[i]?=some f) (ho:f.offset=o) (hty:f.type=ty) (hc:P.cellsOf ty=n) {k:Nat} (hk:SizeOf.sizeOf x.1<k+1) (hR:ReadsD k P ty R) :
    ∃ d,R w ((cs.drop o).take n) d:=by
 subst ho;subst hty;subst hc;exact readsD_field hs h hn i hi hk hR
theorem rTm:Reads Tryz.prog 115 RTm:=by
 intro H enc w base held fuel cs x h hn;have hs:=Tryz.underlying115;have hl:=(reads_len hs h).trans cTm;obtain ⟨s,e0,w0⟩:=field_at (o:=0) hs h hn 0 rfl rfl rfl cS (reads_string Tryz.underlying9);obtain ⟨v,e1,w1⟩:=field_at (o:=1) hs h hn 1 rfl rfl rfl cVal rV
 match cs,hl with
 | [a,b,c,d],_ =>
  simp [V.cells] at e0 e1;exact ⟨⟨s,v⟩,by rw [e0,e1.1,e1.2.1,e1.2.2];rfl,w0,w1⟩
theorem rExD:∀ k,ReadsD k Tryz.prog 118 (RE k)
 | 0 => fun H enc w base held fuel cs x h hn hz => absurd hz (Nat.not_lt_zero _)
 | k+1 => by
  intro H enc w base held fuel cs x h hn hz;have hs:=Tryz.underlying118;have hl:=(reads_len hs h).trans cEx;obtain ⟨op,e0,w0⟩:=field_at (o:=0) hs h hn 0 rfl rfl rfl cOp (reads_int Tryz.underlying110);obtain ⟨t,e1,w1⟩:=field_at (o:=1) hs h hn 1 rfl rfl rfl cTm rTm;obtain ⟨kids,kv,e2,w2⟩:=fieldD_at (o:=5) hs h hn 2 rfl rfl rfl cEs hz (readsD_slice (M:=1759218604441) Tryz.underlying116 cEx (by omega) (fun c hc => by rw [bEx] at hc;unfold reachBytes at hc;omega) (rExD k))
  match cs,hl with
  | [a,b,c,d,e,f],_ =>
   simp [Tm.cells] at e0 e1 e2;exact ⟨.mk op t kids,kv,by rw [e0,e1.1,e1.2.1,e1.2.2.1,e1.2.2.2,e2],w0,w1,w2⟩
theorem rEx:Reads Tryz.prog 118 RX:=reads_ofD rExD
theorem rLt:Reads Tryz.prog 120 RLt:=by
 intro H enc w base held fuel cs x h hn;have hs:=Tryz.underlying120;have hl:=(reads_len hs h).trans cLt
 have rAt:Reads Tryz.prog 108 (fun w cs (d:ByteArray×List Tm) => ∃ av,cs=[.string d.1,av]∧d.1.size≤140737488351232∧SlRep 4 2932031007402 RTm w av d.2):=by
  intro H enc w base held fuel cs x h hn;have hs:=Tryz.underlying108;have hl:=(reads_len hs h).trans cAt;obtain ⟨s,e0,w0⟩:=field_at (o:=0) hs h hn 0 rfl rfl rfl cS (reads_string Tryz.underlying9);obtain ⟨ts,v,e1,w1⟩:=field_at (o:=1) hs h hn 1 rfl rfl rfl cTs (reads_slice (M:=2932031007402) Tryz.underlying106 cTm (by omega) (fun c hc => by rw [bTm] at hc;unfold reachBytes at hc;omega) rTm)
  match cs,hl with
  | [a,b],_ =>
   simp at e0 e1;exact ⟨(s,ts),v,by rw [e0,e1],w0,w1⟩
 obtain ⟨k,e0,w0⟩:=field_at (o:=0) hs h hn 0 rfl rfl rfl cLk (reads_int Tryz.underlying105);obtain ⟨⟨p,ts⟩,av,e1,w1,w1'⟩:=field_at (o:=1) hs h hn 1 rfl rfl rfl cAt rAt;obtain ⟨r,e2,w2⟩:=field_at (o:=3) hs h hn 2 rfl rfl rfl cRl (reads_int Tryz.underlying109);obtain ⟨l,w3⟩:=field_at (o:=4) hs h hn 3 rfl rfl rfl cEx rEx;obtain ⟨d,w4⟩:=field_at (o:=10) hs h hn 4 rfl rfl rfl cEx rEx
 match cs,hl with
 | [a0,a1,a2,a3,a4,a5,a6,a7,a8,a9,b0,b1,b2,b3,b4,b5],_ =>
  simp at e0 e1 e2 w3 w4;exact ⟨⟨k,p,ts,r,l,d⟩,av,[a4,a5,a6,a7,a8,a9],[b0,b1,b2,b3,b4,b5],by rw [e0,e1.1,e1.2,e2];rfl,rfl,rfl,w0,w2,w1,w1',w3,w4⟩
theorem rAr:Reads Tryz.prog 190 RAr:=by
 intro H enc w base held fuel cs x h hn;have hs:=Tryz.underlying190;have hl:=(reads_len hs h).trans cAr;obtain ⟨g,e0,w0⟩:=field_at (o:=0) hs h hn 0 rfl rfl rfl cAg (reads_int Tryz.underlying188);obtain ⟨t,e1,w1⟩:=field_at (o:=1) hs h hn 1 rfl rfl rfl cTm rTm
 match cs,hl with
 | [a,b,c,d,e],_ =>
  simp [Tm.cells] at e0 e1;exact ⟨⟨g,t⟩,by rw [e0,e1.1,e1.2.1,e1.2.2.1,e1.2.2.2];rfl,w0,w1⟩
theorem rRu:Reads Tryz.prog 82 RRu:=by
 intro H enc w base held fuel cs x h hn;have hs:=Tryz.underlying82;have hl:=(reads_len hs h).trans cRu;obtain ⟨p,e0,w0⟩:=field_at (o:=0) hs h hn 0 rfl rfl rfl cS (reads_string Tryz.underlying9);obtain ⟨hd,hv,e1,w1⟩:=field_at (o:=1) hs h hn 1 rfl rfl rfl cAs (reads_slice (M:=2513169434916) Tryz.underlying79 cAr (by omega) (fun c hc => by rw [bAr] at hc;unfold reachBytes at hc;omega) rAr);obtain ⟨bd,bv,e2,w2⟩:=field_at (o:=2) hs h hn 2 rfl rfl rfl cLs (reads_slice (M:=651562446089) Tryz.underlying80 cLt (by omega) (fun c hc => by rw [bLt] at hc;unfold reachBytes at hc;omega) rLt)
 match cs,hl with
 | [a,b,c],_ =>
  simp at e0 e1 e2;exact ⟨⟨p,hd,bd⟩,hv,bv,by rw [e0,e1,e2],w0,w1,w2⟩
theorem rRus:Reads Tryz.prog 22 (SlR 3 2199023255552 RRu) :=
 reads_slice Tryz.underlying22 cRu (by omega) (fun c hc => by rw [bRu] at hc;unfold reachBytes at hc;omega) rRu
end Go.Proofs.YtobabnpllokkaaaGreatDoor
namespace Go.Proofs.YtobabnpllokkaaaGreatDoor
open Go.RowKit Go.WideMaps
section
variable {B:Nat} {w w':World} {b pb mb:Nat} {lv:Value} {ar gone:Nat} {xs:List Rw} {S:Nat→Prop}
theorem OwnL.only {α:Type} {sz:Nat} {e:TypeId} {R:World→List Value→α→Prop} {v:Value} {ys:List α} (h:OwnL sz B e R w v ys) (hR:∀ cs x,R w cs x→R w' cs x) (hg:Only S w w') (hne:∀ k,v.ownBlock=some k→¬ S k):OwnL sz B e R w' v ys:=by
 obtain ⟨css,h1,h2,h3,h4⟩:=h;refine ⟨css,h1,fun i cs x hi hx => ⟨(h2 i cs x hi hx).1,hR _ _ (h2 i cs x hi hx).2⟩,h3,?_⟩;rcases h4 with h4|⟨g,cap,cur,a1,a2,a3,a4⟩
 ·exact .inl h4
 ·exact .inr ⟨g,cap,cur,a1,a2,hg.keeps a3 (hne g (by rw [a1];rfl)),a4⟩
theorem cell_at {g:Nat} {cs:Array Value} {t:TypeId} {fr:Nat×Nat} (h:w.heap[g]?=some (.cells cs t fr)) (j:Nat) (v:Value) (hj:cs[j]?=some v):w.cell? ⟨g,j,none⟩=some v:=by
 simp [World.cell?,h,hj]
theorem free_at {g:Nat} {cs:Array Value} {t:TypeId} (h:w.heap[g]?=some (.cells cs t (0,0))) (j:Nat):w.frozen? ⟨g,j,none⟩=false:=by
 simp [World.frozen?,h]
end
end Go.Proofs.YtobabnpllokkaaaGreatDoor
