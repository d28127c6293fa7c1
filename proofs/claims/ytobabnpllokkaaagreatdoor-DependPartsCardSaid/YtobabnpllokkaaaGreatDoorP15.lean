/- Parts. -/
import Derived.Maps.RangeWalk
import Derived.WalkMore
import Derived.Test.YtobabnpllokkaaaGreatDoorP14
import Derived.Test.YtobabnpllokkaaaGreatDoorP07
import Derived.Test.YtobabnpllokkaaaGreatDoorP02
import Derived.Test.YtobabnpllokkaaaGreatDoorP11
import Derived.Test.YtobabnpllokkaaaGreatDoorP09
import Derived.Test.YtobabnpllokkaaaGreatDoorP00
set_option linter.unusedSimpArgs false
set_option linter.unusedVariables false
namespace Go.Proofs.YtobabnpllokkaaaGreatDoor
open Go.RowKit Go.WideMaps Go.Maps
abbrev tVq:TypeId:=311
theorem zero32 (w:World):(zeroValue 21).run Tryz.prog w = .ok (.int .i32 0) w:=by kernel_rfl
def encQ (l:Nums):List (ByteArray×Value):=l.map fun x => (x.1,.int .i32 (x.2:Nat))
theorem encQ_keys (l:Nums):(encQ l).map (·.1)=l.map (·.1):=by unfold encQ;rw [List.map_map];rfl
theorem look_q {w:World} {b:Nat} {l:Nums} {s:ByteArray} (h:MapE strV w b (encQ l)) (hs:∀ x ∈ l,x.1.size≤140737488351232) (hp:s.size≤140737488351232) :
    (Instr.lookup tVq (.map (some b)) (.string s) true).run Tryz.prog w = .ok (.tuple #[.int .i32 (((lkN l s).getD 0:Nat):Int),.bool (lkN l s).isSome]) w∧(Instr.lookup tVq (.map (some b)) (.string s) false).run Tryz.prog w = .ok (.int .i32 (((lkN l s).getD 0:Nat):Int)) w:=by
 have hok:∀ q ∈ encQ l,q.1.size≤maxLen:=fun q hq => by
  obtain ⟨x,hx,rfl⟩:=List.mem_map.1 hq;exact Nat.le_trans (hs x hx) (by unfold maxLen;omega)
 have h1:=h.look (t:=tVq) keyStr hok Tryz.underlying311 zero32 (x:=s) (Nat.le_trans hp (by unfold maxLen;omega))
 have hg:getE (encQ l) s=(lkN l s).map fun n => .int .i32 (n:Nat):=by
  unfold getE encQ lkN;rw [List.find?_map,Option.map_map,Option.map_map];rfl
 rw [hg] at h1;cases hq:lkN l s with
 | none => rw [hq] at h1;exact ⟨h1.2,h1.1⟩
 | some n => rw [hq] at h1;exact ⟨h1.2,h1.1⟩
theorem push_q {w:World} {b:Nat} {l:Nums} {s:ByteArray} (h:MapE strV w b (encQ l)) (hs:∀ x ∈ l,x.1.size≤140737488351232) (hp:s.size≤140737488351232) (hn:lkN l s=none) (n:Nat) :
    ∃ w',(Instr.mapUpdate tVq (.map (some b)) (.string s) (.int .i32 (n:Nat))).run Tryz.prog w = .ok () w'∧MapE strV w' b (encQ (l++[(s,n)]))∧w.grownBy w' (some b):=by
 have hok:∀ q ∈ encQ l,q.1.size≤maxLen:=fun q hq => by
  obtain ⟨x,hx,rfl⟩:=List.mem_map.1 hq;exact Nat.le_trans (hs x hx) (by unfold maxLen;omega)
 obtain ⟨w',h1,h2,h3⟩:=h.push (t:=tVq) keyStr hok Tryz.underlying311 (x:=s) (Nat.le_trans hp (by unfold maxLen;omega)) (fun q hq => by
  obtain ⟨x,hx,rfl⟩:=List.mem_map.1 hq;exact lkN_none hn x hx) (.int .i32 (n:Nat))
 refine ⟨w',h1,?_,h3⟩;have e:encQ (l++[(s,n)])=encQ l++[(s,.int .i32 (n:Nat))]:=by unfold encQ;rw [List.map_append];rfl
 rw [e];exact h2
theorem put_q {w:World} {b:Nat} {l:Nums} {s:ByteArray} {m:Nat} (h:MapE strV w b (encQ l)) (hs:∀ x ∈ l,x.1.size≤140737488351232) (hp:s.size≤140737488351232) (hn:lkN l s=some m) (n:Nat) :
    ∃ w',(Instr.mapUpdate tVq (.map (some b)) (.string s) (.int .i32 (n:Nat))).run Tryz.prog w = .ok () w'∧MapE strV w' b (encQ (putN l s n))∧w.grownBy w' (some b):=by
 have hok:∀ q ∈ encQ l,q.1.size≤maxLen:=fun q hq => by
  obtain ⟨x,hx,rfl⟩:=List.mem_map.1 hq;exact Nat.le_trans (hs x hx) (by unfold maxLen;omega)
 have hnd:(l.map (·.1)).Nodup:=by
  have:=h.nodup
  rwa [encQ_keys] at this
 obtain ⟨i,hi⟩:=lkN_at hnd hn;obtain ⟨w',h1,h2,h3⟩:=h.put (t:=tVq) keyStr hok Tryz.underlying311 (x:=s) (Nat.le_trans hp (by unfold maxLen;omega)) (j:=i) (u:=.int .i32 (m:Nat)) (by unfold encQ;rw [List.getElem?_map,hi];rfl) (.int .i32 (n:Nat));refine ⟨w',h1,?_,h3⟩;rw [putN_set hnd hi];unfold encQ;rw [List.map_set];exact h2
def setN (l:Nums) (s:ByteArray) (n:Nat):Nums:=match lkN l s with
 | none => l++[(s,n)]
 | some _ => putN l s n
theorem set_q {w:World} {b:Nat} {l:Nums} {s:ByteArray} (h:MapE strV w b (encQ l)) (hs:∀ x ∈ l,x.1.size≤140737488351232) (hp:s.size≤140737488351232) (n:Nat) :
    ∃ w',(Instr.mapUpdate tVq (.map (some b)) (.string s) (.int .i32 (n:Nat))).run Tryz.prog w = .ok () w'∧MapE strV w' b (encQ (setN l s n))∧w.grownBy w' (some b):=by
 unfold setN;cases hq:lkN l s with
 | none => exact push_q h hs hp hq n
 | some m => exact put_q h hs hp hq n
def lk0 (l:Nums) (s:ByteArray):Nat:=(lkN l s).getD 0
def Ed.strict (e:Ed):Bool:=!decide (e.k=1)
def blameE (inn:Nums) (es:List Ed):Option Ed:=es.find? fun e => e.strict && decide (lk0 inn e.f=lk0 inn e.t)
def Ed.wants (e:Ed) (n:Nums):Nat:=if e.strict=true then lk0 n e.t+1 else lk0 n e.t
def stepR (s:Nums×Bool) (e:Ed):Nums×Bool:=if lk0 s.1 e.f<e.wants s.1 then (setN s.1 e.f (e.wants s.1),true) else s
def roundR (es:List Ed) (n:Nums):Nums×Bool:=es.foldl stepR (n,false)
def raiseR (es:List Ed):Nat→Nums→Option Nums
 | 0,_ => none
 | f+1,n => if (n.all fun x => decide (x.2≤100000000))=true then (if (roundR es n).2=true then raiseR es f (roundR es n).1 else some (roundR es n).1) else none
def Ed.errno (e:Ed):Int:=if e.k=2 then 90 else if e.k=3 then 91 else 92
open Go.ChangeMaps (setBlock)
def RngE {α:Type} (kv:α→Value) (w:World) (b r:Nat) (l:List (α×Value)) (left:List α):Prop :=
 ∃ es clock since seen c0,w.heap[b]?=some (.map es clock)∧MapKept.Stamped es clock∧es.toList.map (fun e => (e.key,e.val))=l.map (fun p => (kv p.1,p.2)) ∧
  w.heap[r]?=some (.mapIter (some b) since seen c0)∧(∀ x ∈ es.toList,x.born<since)∧(leftOf es seen).toList.map (·.key)=left.map kv∧since≤c0∧since≤clock
theorem left_filter {α:Type} [DecidableEq α] {kv:α→Value} (hinj:∀ x y,kv x=kv y→x=y) {e:MapEntry} {x:α} (hx:kv x=e.key) :
    ∀ (A:List MapEntry) (left:List α),A.map (·.key)=left.map kv→(∀ a ∈ A,a.born=e.born↔a.key=e.key)→(A.filter (fun a => !(a.born == e.born))).map (·.key)=(left.filter (fun y => !decide (y=x))).map kv
 | [],left,h,_ => by
  cases left with
  | nil => rfl
  | cons y r => cases h
 | a :: A,left,h,hb => by
  cases left with
  | nil => cases h
  | cons y r =>
   simp only [List.map_cons,List.cons.injEq] at h;have ih:=left_filter hinj hx A r h.2 fun z hz => hb z (List.mem_cons_of_mem _ hz);have h1:=hb a List.mem_cons_self
   by_cases hy:y=x
   ·have e1:a.born=e.born:=h1.2 (by rw [h.1,hy,hx]);rw [List.filter_cons_of_neg (by simp [e1]),List.filter_cons_of_neg (by simp [hy]),ih]
   ·have e1:¬ a.born=e.born:=fun q => hy (hinj _ _ (by rw [← h.1,h1.1 q,hx]));rw [List.filter_cons_of_pos (by simp [e1]),List.filter_cons_of_pos (by simp [hy]),List.map_cons,List.map_cons,ih,h.1]
section
variable {α:Type} {P:Program} {kv:α→Value} {w w':World} {b r:Nat} {l:List (α×Value)} {left:List α}
theorem RngE.mape (h:RngE kv w b r l left):MapE kv w b l:=by
 obtain ⟨es,clock,_,_,_,h1,h2,h3,_⟩:=h;exact ⟨es,clock,h1,h2,h3⟩
theorem RngE.ne (h:RngE kv w b r l left):r≠b:=by
 obtain ⟨es,clock,_,_,_,h1,_,_,h4,_⟩:=h;intro e;rw [e,h1] at h4;cases h4
theorem RngE.lt (h:RngE kv w b r l left):r<w.heap.size:=by
 obtain ⟨es,clock,_,_,_,_,_,_,h4,_⟩:=h;exact (Array.getElem?_eq_some_iff.1 h4).1
theorem RngE.kept (h:RngE kv w b r l left) (hb:w'.heap[b]?=w.heap[b]?) (hr:w'.heap[r]?=w.heap[r]?):RngE kv w' b r l left:=by
 obtain ⟨es,clock,since,seen,c0,h1,h2,h3,h4,h5⟩:=h;exact ⟨es,clock,since,seen,c0,hb.trans h1,h2,h3,hr.trans h4,h5⟩
theorem RngE.only {S:Nat→Prop} (h:RngE kv w b r l left) (hO:Only S w w') (hb:¬ S b) (hr:¬ S r):RngE kv w' b r l left:=h.kept (hO.block b h.mape.lt hb) (hO.block r h.lt hr)
theorem RngE.fut (h:RngE kv w b r l left) (hf:Fut w w'):RngE kv w' b r l left:=h.only (S:=fun _ => False) (Only.fut hf) (fun h => h) (fun h => h)
theorem iter_ne (h:RngE kv w b r l left) {k:Nat} {arr:Array Value} {t:TypeId} (hk:w.heap[k]?=some (.cells arr t (0,0))):k≠r:=fun e => by
 obtain ⟨es,clock,_,_,_,_,_,_,h4,_⟩:=h;rw [e,h4] at hk;cases hk
theorem MapE.range {t k e:TypeId} (h:MapE kv w b l) (ht:P.underlying t=some (.map k e)) :
    ∃ w',(Instr.range t (.map (some b))).run P w = .ok (.pointer (some ⟨w.heap.size,0,none⟩)) w'∧RngE kv w' b w.heap.size l (l.map (·.1))∧Fut w w'∧w'.heap.size=w.heap.size+1:=by
 have hlt:=h.lt;obtain ⟨es,clock,h1,h2,h3⟩:=h;refine ⟨_,run_range_map w t k e b es clock ht h1,⟨es,clock,clock,#[],clock,((MapKept.heap_alloc w _).2 b hlt).trans h1,h2,h3,(MapKept.heap_alloc w _).1,h2.1,?_,Nat.le_refl _,Nat.le_refl _⟩,Fut.alloc w _,by simp⟩;have e1:leftOf es #[]=es:=by unfold leftOf;exact Array.filter_eq_self.2 fun x _ => by simp
 rw [e1,List.map_map];have:=congrArg (List.map (·.1)) h3;rw [List.map_map,List.map_map] at this;exact this
theorem RngE.next [DecidableEq α] (h:RngE kv w b r l left) (hinj:∀ x y,kv x=kv y→x=y) (ty:TypeId) :
    (left=[]∧(Instr.next (.pointer (some ⟨r,0,none⟩)) false ty).run P w = .ok (.tuple #[.bool false]) w) ∨
    ∃ x v w',x ∈ left∧(x,v) ∈ l∧(Instr.next (.pointer (some ⟨r,0,none⟩)) false ty).run P w = .ok (.tuple #[.bool true,kv x,v]) w' ∧
     RngE kv w' b r l (left.filter (fun y => !decide (y=x)))∧w.grownBy w' (some r)∧w'.heap.size=w.heap.size∧(Instr.entry (.pointer (some ⟨r,0,none⟩))).run P w' = .ok (.tuple #[kv x,v]) w':=by
 have hne:=h.ne;obtain ⟨es,clock,since,seen,c0,hb,hst,hl,hr,hold,hleft,hsc,hsk⟩:=h;have hS:=(MapKept.stamped_iff es clock).1 hst;rcases Go.run_next_at (P:=P) w ty r b since c0 seen es clock hr hb hold hsc with ⟨h0,hrun⟩|⟨e,he,w1,hal,hrun⟩
 ·refine Or.inl ⟨?_,hrun⟩;have h1:=congrArg List.length hleft;simp only [List.length_map,Array.length_toList] at h1;exact List.length_eq_zero_iff.1 (by omega)
 ·obtain ⟨hem,hes⟩:=mem_left he;have hm1:e.key ∈ left.map kv:=by rw [← hleft];exact List.mem_map.2 ⟨e,he,rfl⟩
  obtain ⟨x,hx,hxe⟩:=List.mem_map.1 hm1;have hm2:(e.key,e.val) ∈ l.map (fun p => (kv p.1,p.2)):=by rw [← hl];exact List.mem_map.2 ⟨e,hem,rfl⟩
  obtain ⟨⟨x2,v⟩,hv,hve⟩:=List.mem_map.1 hm2;simp only [Prod.mk.injEq] at hve;obtain ⟨hx2,rfl⟩:=hve;obtain rfl:x2=x:=hinj _ _ (hx2.trans hxe.symm);have hr1:w1.heap[r]?=some (.mapIter (some b) since seen c0):=by rcases hal with rfl|rfl <;> exact hr
  have hb1:w1.heap[b]?=some (.map es clock):=by rcases hal with rfl|rfl <;> exact hb
  have hset:=MapKept.heap_set (o':=.mapIter (some b) since (seen.push e.born) clock) hr1;have hb':(setBlock w1 r (.mapIter (some b) since (seen.push e.born) clock)).heap[b]?=some (.map es clock):=(hset.2 b (fun e1 => hne e1.symm)).trans hb1;have hen:=run_entry_at (P:=P) _ r b since seen es clock e hset.1 hb' hem hS.2.1;rw [← hxe] at hrun hen;refine Or.inr ⟨x2,e.val,_,hx,hv,hrun,⟨es,clock,since,seen.push e.born,clock,hb',hst,hl,hset.1,hold,?_,hsk,hsk⟩,?_,?_,hen⟩
  ·rw [← left_filter hinj hxe (leftOf es seen).toList left hleft fun a ha => ?_]
   ·have e1:(leftOf es (seen.push e.born)).toList=(leftOf es seen).toList.filter (fun a => !(a.born == e.born)):=by
      unfold leftOf;rw [Array.toList_filter,Array.toList_filter,List.filter_filter];refine List.filter_congr fun a _ => ?_;rw [contains_push];cases seen.contains a.born <;> cases (a.born == e.born) <;> rfl
    rw [e1]
   ·have ha2:=(mem_left ha).1
    constructor
    ·intro q;rw [born_inj hS.2.1 ha2 hem q]
    ·intro q;rw [entry_eq_of_key hS.2.2 ha2 hem q]
  ·rcases hal with rfl|rfl <;> exact ⟨rfl,rfl,rfl,by simp [setBlock],fun i _ hi => hset.2 i (fun e1 => hi (by rw [e1]))⟩
  ·rcases hal with rfl|rfl <;> simp [setBlock]
end
section
variable {α:Type} {P:Program} {kv:α→Value} (w:World) {ops:Array Oper} {rest:List Oper} {o:Oper} {a:Act} {Q:Exit→Act→World→Prop} {l:List (α×Value)} {left:List α}
theorem wpList_rangeE (hg:o.guard=none) (m:Operand) (t:TypeId) (hop:o.op=Op.range t m) (k e:TypeId) (ht:P.underlying t=some (.map k e)) (b:Nat) (hm:a.eval m = .map (some b)) (h:MapE kv w b l)
    (hK:∀ w',RngE kv w' b w.heap.size l (l.map (·.1))→Fut w w'→w'.heap.size=w.heap.size+1→wpList P ops Q rest (a.put o.dst (.pointer (some ⟨w.heap.size,0,none⟩))) w'):wpList P ops Q (o :: rest) a w:=by
 refine wpList_plain hg fun K' hK' => ?_;obtain ⟨w',hrun,r1,r2,r3⟩:=h.range ht;unfold Oper.wp;simp [execOp,hop,hm,hrun,Result.andThen];exact hK' _ _ (hK w' r1 r2 r3)
theorem wpList_nextE [DecidableEq α] (hg:o.guard=none) (it:Operand) (hop:o.op=Op.next it false) (b r:Nat) (hit:a.eval it = .pointer (some ⟨r,0,none⟩)) (h:RngE kv w b r l left) (hinj:∀ x y,kv x=kv y→x=y)
    (hDone:left=[]→wpList P ops Q rest (a.put o.dst (.tuple #[.bool false])) w)
    (hMore:∀ (x:α) (v:Value) (w':World),x ∈ left→(x,v) ∈ l→RngE kv w' b r l (left.filter (fun y => !decide (y=x)))→w.grownBy w' (some r)→w'.heap.size=w.heap.size→(Instr.entry (.pointer (some ⟨r,0,none⟩))).run P w' = .ok (.tuple #[kv x,v]) w'→wpList P ops Q rest (a.put o.dst (.tuple #[.bool true,kv x,v])) w'):wpList P ops Q (o :: rest) a w:=by
 refine wpList_plain hg fun K' hK' => ?_;unfold Oper.wp;rcases h.next (P:=P) hinj o.type with ⟨h0,hrun⟩|⟨x,v,w',hx,hv,hrun,hrg,hgr,hsz,hen⟩
 ·simp [execOp,hop,hit,hrun,Result.andThen];exact hK' _ _ (hDone h0)
 ·simp [execOp,hop,hit,hrun,Result.andThen];exact hK' _ _ (hMore x v w' hx hv hrg hgr hsz hen)
end
abbrev tNs:TypeId:=102
def numK (n:Nat):Value:=.int .i64 (n:Nat)
theorem numK_inj:∀ x y,numK x=numK y→x=y:=fun x y h => by
 unfold numK at h;injection h with _ h
 omega
theorem keyNum:KeyOn Tryz.prog 3 numK (fun n => n≤1000000000) where
 law:=int_keyed Tryz.underlying3
 lit x hx:=⟨.int .i64 (x:Nat),by
  have h1:(Lit.int .i64 (x:Nat)).wf=true:=by
   simp [Lit.wf,IntKind.min,IntKind.max,IntKind.bits,IntKind.signed];omega
  simp [keyOf,Tryz.underlying3,numK,mapKey,h1]⟩
 inj:=numK_inj
def nsE (L:List Nat):List (Nat×Value):=L.map fun n => (n,.agg #[])
theorem nsE_keys (L:List Nat):(nsE L).map (·.1)=L:=by unfold nsE;rw [List.map_map];exact List.map_id L
def addK (L:List Nat) (n:Nat):List Nat:=if n ∈ L then L else L++[n]
theorem addK_mem {L:List Nat} {v x:Nat}:x ∈ addK L v↔x ∈ L∨x=v:=by
 unfold addK
 split
 ·rename_i h
  constructor
  ·exact .inl
  ·rintro (h1|rfl)
   ·exact h1
   ·exact h
 ·rw [List.mem_append,List.mem_singleton]
theorem addK_nodup {L:List Nat} {v:Nat} (h:L.Nodup):(addK L v).Nodup:=by
 unfold addK
 split
 ·exact h
 ·rename_i hn;rw [List.nodup_append];exact ⟨h,by simp,fun a ha b hb e => hn (by rw [List.mem_singleton] at hb;rw [← hb,← e];exact ha)⟩
section
variable {w:World} {b:Nat} {L:List Nat} {p:Nat}
theorem nsE_ok (h:∀ s ∈ L,s≤1000000000):∀ q ∈ nsE L,q.1≤1000000000:=fun q hq => by
 obtain ⟨s,hs,rfl⟩:=List.mem_map.1 hq;exact h s hs
theorem ns_add (h:MapE numK w b (nsE L)) (hs:∀ s ∈ L,s≤1000000000) (hp:p≤1000000000):∃ w',(Instr.mapUpdate tNs (.map (some b)) (.int .i64 (p:Nat)) (.agg #[])).run Tryz.prog w = .ok () w'∧MapE numK w' b (nsE (addK L p))∧w.grownBy w' (some b):=by
 by_cases e:p ∈ L
 ·obtain ⟨i,hi⟩:=List.getElem?_of_mem e;have hat:(nsE L)[i]?=some (p,.agg #[]):=by unfold nsE;rw [List.getElem?_map,hi];rfl
  obtain ⟨w',h1,h2,h3⟩:=h.put (t:=tNs) keyNum (nsE_ok hs) Tryz.underlying102 (x:=p) hp hat (.agg #[]);refine ⟨w',h1,?_,h3⟩
  have e1:(nsE L).set i (p,.agg #[])=nsE L:=by
   refine List.ext_getElem? fun j => ?_;rw [List.getElem?_set]
   by_cases hj:i=j
   ·subst hj;rw [if_pos rfl,if_pos (List.getElem?_eq_some_iff.1 hat).1,hat]
   ·rw [if_neg hj]
  rw [e1] at h2;unfold addK;rw [if_pos e];exact h2
 ·obtain ⟨w',h1,h2,h3⟩:=h.push (t:=tNs) keyNum (nsE_ok hs) Tryz.underlying102 (x:=p) hp (fun q hq he => e (by
    obtain ⟨s,hs,rfl⟩:=List.mem_map.1 hq;rw [← he];exact hs)) (.agg #[])
  refine ⟨w',h1,?_,h3⟩;unfold addK;rw [if_neg e];have e1:nsE (L++[p])=nsE L++[(p,.agg #[])]:=by unfold nsE;rw [List.map_append];rfl
  rw [e1];exact h2
theorem ns_len (h:MapE numK w b (nsE L)) (ty:TypeId):(Builtin.len_ #[tNs] ty #[.map (some b)]).run Tryz.prog w = .ok (.int .i64 (L.length:Nat)) w:=by
 have:=h.len (P:=Tryz.prog) (t:=tNs) Tryz.underlying102 ty
 rwa [show (nsE L).length=L.length from List.length_map _] at this
end
def lowS (inn:Nums) (i:Nat) (acc:List Nat) (t:ByteArray):List Nat:=if lk0 inn t=i then acc else addK acc (lk0 inn t)
def lowR (G:Gr) (inn:Nums) (i:Nat) (acc:List Nat) (s:ByteArray):List Nat:=(sucs G s).foldl (lowS inn i) acc
def lowerP (G:Gr) (T:TS) (i:Nat):List Nat:=(T.out.getD i []).foldl (lowR G T.inn i) []
def waitP (G:Gr) (T:TS) (i j:Nat):Int:=if j<i then ((lowerP G T j).length:Nat) else 0
def aboveP (G:Gr) (T:TS) (i j:Nat):List Nat:=(List.range i).filter fun k => decide (j ∈ lowerP G T k)
def headP (T:TS) (i:Nat):ByteArray:=(T.out.getD i []).headD ⟨#[]⟩
def betterP (T:TS) (i:Nat):Option Nat→Bool
 | none => true
 | some a => decide (cmpS (headP T i) (headP T a)<0)
def pickP (T:TS) (wt:Nat→Int):Nat→Option Nat
 | 0 => none
 | i+1 => if wt i=0∧betterP T i (pickP T wt i)=true then some i else pickP T wt i
def wrapP (n:Int):Int:=wrap64 n
def downP (wt:Nat→Int) (i:Nat):Nat→Int:=fun j => if j=i then wrapP (wt i - 1) else wt j
def layP (G:Gr) (T:TS) (wt:Nat→Int) (a:Nat):Nat→Int:=(aboveP G T T.out.length a).foldl downP (fun j => if j=a then -1 else wt j)
def ordP (G:Gr) (T:TS):Nat→(Nat→Int)→Option (List Nat)
 | 0,_ => some []
 | m+1,wt => match pickP T wt T.out.length with
  | none => none
  | some a => (ordP G T m (layP G T wt a)).map (a :: ·)
def partsP (G:Gr) (T:TS):Option (List (List ByteArray)):=(ordP G T T.out.length (waitP G T T.out.length)).map fun l => l.map fun a => T.out.getD a []
structure SoundT (T:TS):Prop where
 ne:∀ p ∈ T.out,p≠[]
 lt:∀ x ∈ T.inn,x.2<T.out.length
 len:T.out.length≤100000000
theorem SoundT.lk {T:TS} (h:SoundT T) (h0:0<T.out.length) (s:ByteArray):lk0 T.inn s<T.out.length:=by
 unfold lk0 lkN;cases hq:T.inn.find? fun x => decide (x.1=s) with
 | none => exact h0
 | some x => exact h.lt x (List.mem_of_find?_eq_some hq)
theorem lowS_all {inn:Nums} {i:Nat} {P:Nat→Prop} (hP:∀ t,P (lk0 inn t)) {acc:List Nat} {t:ByteArray} (h:∀ x ∈ acc,P x):∀ x ∈ lowS inn i acc t,P x:=fun x hx => by
 unfold lowS at hx
 split at hx
 ·exact h x hx
 ·rcases addK_mem.1 hx with h1|rfl
  ·exact h x h1
  ·exact hP t
theorem foldl_inv {α β:Type} {P:β→Prop} {f:β→α→β} (hf:∀ b a,P b→P (f b a)):∀ (l:List α) (b:β),P b→P (l.foldl f b)
 | [],b,h => h
 | a :: r,b,h => foldl_inv hf r _ (hf b a h)
theorem lowR_all {G:Gr} {inn:Nums} {i:Nat} {P:Nat→Prop} (hP:∀ t,P (lk0 inn t)) {acc:List Nat} {s:ByteArray} (h:∀ x ∈ acc,P x):∀ x ∈ lowR G inn i acc s,P x :=
 foldl_inv (P:=fun acc:List Nat => ∀ x ∈ acc,P x) (fun _ _ h => lowS_all hP h) _ _ h
theorem lowerP_all {G:Gr} {T:TS} {P:Nat→Prop} (hP:∀ t,P (lk0 T.inn t)) (i:Nat):∀ x ∈ lowerP G T i,P x :=
 foldl_inv (P:=fun acc:List Nat => ∀ x ∈ acc,P x) (fun _ _ h => lowR_all hP h) _ _ (fun x hx => by cases hx)
theorem lowS_nodup {inn:Nums} {i:Nat} {acc:List Nat} {t:ByteArray} (h:acc.Nodup):(lowS inn i acc t).Nodup:=by
 unfold lowS
 split
 ·exact h
 ·exact addK_nodup h
theorem lowerP_nodup (G:Gr) (T:TS) (i:Nat):(lowerP G T i).Nodup :=
 foldl_inv (P:=fun acc:List Nat => acc.Nodup) (fun _ _ h => foldl_inv (P:=fun acc:List Nat => acc.Nodup) (fun _ _ h => lowS_nodup h) _ _ h) _ _ List.nodup_nil
theorem aboveP_succ (G:Gr) (T:TS) (i j:Nat):aboveP G T (i+1) j=aboveP G T i j++(if j ∈ lowerP G T i then [i] else []):=by
 unfold aboveP;rw [List.range_succ,List.filter_append]
 by_cases h:j ∈ lowerP G T i <;> simp [h]
def RIn (_:World) (cs:List Value) (x:Nat):Prop:=cs=[.int .i64 (x:Nat)]
theorem RIn.stays:Stays RIn:=fun _ _ _ _ _ h => h
theorem RIn.keeps {e:TypeId}:Keeps e RIn:=fun _ _ _ _ _ h _ _ => h
theorem RIn.one:∀ (w:World) cs x,RIn w cs x→∀ u ∈ cs,u.oneCell'=true:=fun w cs x h u hu => by
 obtain rfl:cs=_:=h;simp only [List.mem_cons,List.not_mem_nil,or_false] at hu;rcases hu with rfl
 rfl
theorem infoIn1:(Tryz.prog.info? 3).map (fun i => (i.zero,i.size,i.bytes))=some (some (.int .i64 0),1,8):=by kernel_rfl
theorem infoIl1:(Tryz.prog.info? 100).map (fun i => (i.zero,i.size,i.bytes))=some (some (.slice none 0 0),1,24):=by kernel_rfl
theorem infoIl:(Tryz.prog.info? 100).map (·.size)=some 1:=by kernel_rfl
theorem inOne (w:World) (n:Nat) (e:TypeId):SlRep 1 1 RIn (w.alloc (.cells #[.int .i64 (n:Nat)] e)) (.slice (some ⟨w.heap.size,0,none⟩) 1 1) [n]:=slOne w [.int .i64 (n:Nat)] _ e rfl rfl
structure AbI (W:World) (wb ab B n:Nat) (wt:Nat→Int) (av:Nat→List Nat):Prop where
 wait:BlkF W wb 3 n (fun j => .int .i64 (wt j))
 above:∃ vs:Nat→Value,BlkF W ab 100 n vs∧(∀ j,j<n→OwnL 1 B 3 RIn W (vs j) (av j))∧∀ i j k,i<n→j<n→(vs i).ownBlock=some k→(vs j).ownBlock=some k→i=j
 low:wb<B∧ab<B∧wb≠ab∧B≤W.heap.size
section
variable {W w':World} {wb ab B n:Nat} {wt wt':Nat→Int} {av av':Nat→List Nat}
theorem BlkF.only {S:Nat→Prop} {w:World} {g N:Nat} {t:TypeId} {f:Nat→Value} (h:BlkF w g t N f) (hO:Only S w w') (hS:¬ S g):BlkF w' g t N f:=by
 obtain ⟨arr,h1,h2⟩:=h;exact ⟨arr,hO.keeps h1 hS,h2⟩
theorem AbI.only2 {S:Nat→Prop} (h:AbI W wb ab B n wt av) (hO:Only S W w') (hS:∀ (k:Nat) (arr:Array Value) (t:TypeId),t=3∨t=100→W.heap[k]?=some (.cells arr t (0,0))→¬ S k):AbI w' wb ab B n wt av:=by
 obtain ⟨hw,⟨vs,h1,h2,h3⟩,h4⟩:=h
 have off:∀ {g N:Nat} {t:TypeId} {f:Nat→Value},t=3∨t=100→BlkF W g t N f→¬ S g:=fun ht hb => by
  obtain ⟨arr,b1,_⟩:=hb;exact hS _ _ _ ht b1
 exact ⟨hw.only hO (off (.inl rfl) hw),⟨vs,h1.only hO (off (.inr rfl) h1),fun j hj => (h2 j hj).only (fun _ _ h => h) hO fun k hk => by
  obtain ⟨arr,g⟩:=(h2 j hj).typed k hk;exact hS _ _ _ (.inl rfl) g,h3⟩,h4.1,h4.2.1,h4.2.2.1,Nat.le_trans h4.2.2.2 hO.size⟩
theorem AbI.only {S:Nat→Prop} (h:AbI W wb ab B n wt av) (hO:Only S W w') (hS:∀ (k:Nat) (arr:Array Value) (t:TypeId),W.heap[k]?=some (.cells arr t (0,0))→¬ S k):AbI w' wb ab B n wt av:=h.only2 hO fun k arr t _ => hS k arr t
theorem AbI.aboveAt (h:AbI W wb ab B n wt av) {k:Nat} (hk:k<n):∃ v,W.cell? ⟨ab,k,none⟩=some v∧OwnL 1 B 3 RIn W v (av k):=by
 obtain ⟨_,⟨vs,h1,h2,_⟩,_⟩:=h;exact ⟨vs k,h1.cell hk,h2 k hk⟩
theorem RLs.only {C:Nat} {S:Nat→Prop} {sv:Value} {cs:List Value} {x:List ByteArray} (h:RLs C sv W cs x) (hO:Only S W w') (hS:∀ (k:Nat) (arr:Array Value),W.heap[k]?=some (.cells arr 9 (0,0))→¬ S k):RLs C sv w' cs x:=by
 obtain ⟨v,h1,h2,h3⟩:=h
 exact ⟨v,h1,h2.only (fun _ _ h => h) hO fun k hk => by
  obtain ⟨arr,g⟩:=h2.typed k hk;exact hS _ _ g,h3⟩
theorem AbI.fut (h:AbI W wb ab B n wt av) (hf:Fut W w'):AbI w' wb ab B n wt av:=h.only (S:=fun _ => False) (Only.fut hf) fun _ _ _ _ h => h
theorem AbI.congr (h:AbI W wb ab B n wt av) (hw:∀ j,j<n→wt j=wt' j) (ha:∀ j,j<n→av j=av' j):AbI W wb ab B n wt' av':=by
 obtain ⟨hw',⟨vs,h1,h2,h3⟩,h4⟩:=h;exact ⟨hw'.congr fun j hj => by rw [hw j hj],⟨vs,h1,fun j hj => by rw [← ha j hj];exact h2 j hj,h3⟩,h4⟩
theorem AbI.setWait (h:AbI W wb ab B n wt av) (i:Nat) (v:Int):AbI (W.setCell ⟨wb,i,none⟩ (.int .i64 v)) wb ab B n (fun j => if j=i then v else wt j) av:=by
 obtain ⟨hw,⟨vs,h1,h2,h3⟩,h4⟩:=h;have O:Only (fun k => k=wb) W (W.setCell ⟨wb,i,none⟩ (.int .i64 v)):=Only.set _ _ rfl;refine ⟨(hw.set i _).congr fun j _ => ?_,⟨vs,h1.only O (fun e => h4.2.2.1 e.symm),fun j hj => (h2 j hj).only (fun _ _ h => h) O fun k hk e => ?_,h3⟩,h4.1,h4.2.1,h4.2.2.1,Nat.le_trans h4.2.2.2 O.size⟩
 ·by_cases e:j=i <;> simp [e]
 ·have:=((h2 j hj).block k hk).1;omega
theorem AbI.pushAbove (h:AbI W wb ab B n wt av) {k:Nat} (hk:k<n):∃ v,W.cell? ⟨ab,k,none⟩=some v∧OwnL 1 B 3 RIn W v (av k) ∧
    ∀ w' v' i,OwnL 1 B 3 RIn w' v' (av k++[i])→W.grownBy w' v.ownBlock→SameOrNew W v v'→w'.cell? ⟨ab,k,none⟩=some v∧w'.frozen? ⟨ab,k,none⟩=false ∧
     AbI (w'.setCell ⟨ab,k,none⟩ v') wb ab B n wt (fun j => if j=k then av k++[i] else av j)∧Only (fun j => ab=j∨B≤j) W (w'.setCell ⟨ab,k,none⟩ v') ∧
     (∀ b r l left,RngE numK W b r l left→RngE numK (w'.setCell ⟨ab,k,none⟩ v') b r l left):=by
 obtain ⟨hw,⟨vs,h1,h2,h3⟩,h4⟩:=h;refine ⟨vs k,h1.cell hk,h2 k hk,fun w' v' i o g sn => ?_⟩;have O1:Only (fun j => (vs k).ownBlock=some j) W w':=Only.grown g fun j hj => hj
 have nab:¬ (vs k).ownBlock=some ab:=fun e => by
  have:=((h2 k hk).block _ e).1;omega
 have nwb:¬ (vs k).ownBlock=some wb:=fun e => by
  have:=((h2 k hk).block _ e).1;omega
 have b1:=h1.only O1 nab;have b2:=hw.only O1 nwb;have O2:Only (fun j => j=ab) w' (w'.setCell ⟨ab,k,none⟩ v'):=Only.set _ _ rfl
 have own2:∀ {v:Value} {l:List Nat},OwnL 1 B 3 RIn w' v l→OwnL 1 B 3 RIn (w'.setCell ⟨ab,k,none⟩ v') v l:=fun ho => ho.only (fun _ _ h => h) O2 fun j hj e => by
  have:=(ho.block j hj).1;omega
 have below:∀ j,j<n→∀ q,(vs j).ownBlock=some q→q<W.heap.size:=fun j hj q hq => ((h2 j hj).block q hq).2;refine ⟨b1.cell hk,b1.free k,⟨b2.only O2 h4.2.2.1,⟨fun j => if j=k then v' else vs j,b1.set k v',fun j hj => ?_,fun i' j q hi hj hq hq2 => ?_⟩,h4.1,h4.2.1,h4.2.2.1,?_⟩,?_,fun b r l left hr => ?_⟩
 ·by_cases e:j=k
  ·subst e;simp only [if_pos];exact own2 o
  ·simp only [if_neg e];exact own2 ((h2 j hj).only (fun _ _ h => h) O1 fun q hq e2 => e (h3 j k q hj hk hq e2))
 ·simp only at hq hq2
  by_cases e1:i'=k
  ·by_cases e2:j=k
   ·rw [e1,e2]
   ·rw [if_pos e1] at hq;rw [if_neg e2] at hq2;rcases sn with e|e
    ·rw [e] at hq;exact absurd (h3 k j q hk hj hq hq2).symm e2
    ·have:=e q hq;have:=below j hj q hq2;omega
  ·rw [if_neg e1] at hq
   by_cases e2:j=k
   ·rw [if_pos e2] at hq2;rcases sn with e|e
    ·rw [e] at hq2;exact absurd (h3 i' k q hi hk hq hq2) e1
    ·have:=e q hq2;have:=below i' hi q hq;omega
   ·rw [if_neg e2] at hq2;exact h3 i' j q hi hj hq hq2
 ·exact Nat.le_trans h4.2.2.2 (Nat.le_trans O1.size O2.size)
 ·exact (O1.mono fun j _ hj => .inr ((h2 k hk).block j hj).1).trans (O2.mono fun j _ hj => .inl hj.symm)
 ·have off:∀ {k:Nat} {arr:Array Value} {t:TypeId},W.heap[k]?=some (.cells arr t (0,0))→k≠b∧k≠r:=fun hk => ⟨(map_ne hr.mape hk).symm,iter_ne hr hk⟩
  obtain ⟨arr,g1,_⟩:=h1;have n1:=off g1
  have r1:RngE numK w' b r l left:=hr.only O1 (fun e => by
   obtain ⟨arr,g⟩:=(h2 k hk).typed _ e;exact (off g).1 rfl) (fun e => by
   obtain ⟨arr,g⟩:=(h2 k hk).typed _ e;exact (off g).2 rfl)
  exact r1.only O2 (fun e => n1.1 e.symm) (fun e => n1.2 e.symm)
end
theorem blk_made (w:World) (z:Value) (n:Nat) (t:TypeId):BlkF (w.alloc (.cells (madeCells #[z] n) t)) w.heap.size t n (fun _ => z) :=
 ⟨_,heap_alloc_new w _,size_madeCells _ _,fun j hj => by simp [madeCells,hj,Nat.mod_one]⟩
theorem AbI.new (w W:World) (n:Nat) (G:Gr) (T:TS) (hW:W=(w.alloc (.cells (madeCells #[.int .i64 0] n) 3)).alloc (.cells (madeCells #[.slice none 0 0] n) 100)):AbI W w.heap.size (w.heap.size+1) (w.heap.size+2) n (waitP G T 0) (aboveP G T 0)∧Fut w W∧W.heap.size=w.heap.size+2:=by
 have h1:=blk_made w (.int .i64 0) n 3;obtain ⟨W1,e1⟩:∃ x,w.alloc (.cells (madeCells #[.int .i64 0] n) 3)=x:=⟨_,rfl⟩
 have f1:=Fut.alloc w (.cells (madeCells #[.int .i64 0] n) 3);have z1:W1.heap.size=w.heap.size+1:=by rw [← e1];simp
 rw [e1] at h1 hW f1;have h2:=blk_made W1 (.slice none 0 0) n 100;have f2:=Fut.alloc W1 (.cells (madeCells #[.slice none 0 0] n) 100);rw [← hW,z1] at h2;rw [← hW] at f2;have z2:W.heap.size=w.heap.size+2:=by rw [hW];simp [z1]
 exact ⟨⟨(h1.fut f2).congr fun j _ => rfl,⟨_,h2,fun j _ => OwnL.nil,fun i j k _ _ hk => by cases hk⟩,by omega,by omega,by omega,by omega⟩,f1.trans f2,z2⟩
theorem run_makeI (n:Nat) (hn:n≤100000000) (W:World):(Instr.makeSlice 100 (.int .i64 (n:Nat)) (.int .i64 (n:Nat))).run Tryz.prog W = .ok (.slice (some ⟨W.heap.size,0,none⟩) n n) (W.alloc (.cells (madeCells #[.int .i64 0] n) 3)):=by
 obtain ⟨i,hi,hz,hs,hb⟩:=info_parts infoIn1;have:=run_make_rowN (P:=Tryz.prog) 100 3 i (.int .i64 0) Tryz.underlying100 hi hz .i64 .i64 n n (Nat.le_refl _) (by rw [hb];omega) (by omega) W;rw [hs,Nat.mul_one] at this;exact this
theorem run_makeIl (n:Nat) (hn:n≤100000000) (W:World):(Instr.makeSlice 101 (.int .i64 (n:Nat)) (.int .i64 (n:Nat))).run Tryz.prog W = .ok (.slice (some ⟨W.heap.size,0,none⟩) n n) (W.alloc (.cells (madeCells #[.slice none 0 0] n) 100)):=by
 obtain ⟨i,hi,hz,hs,hb⟩:=info_parts infoIl1;have:=run_make_rowN (P:=Tryz.prog) 101 100 i (.slice none 0 0) Tryz.underlying101 hi hz .i64 .i64 n n (Nat.le_refl _) (by rw [hb];omega) (by omega) W;rw [hs,Nat.mul_one] at this;exact this
theorem RngE.cnt {α:Type} {kv:α→Value} {w:World} {b r:Nat} {l:List (α×Value)} {left:List α} (h:RngE kv w b r l left):w.rangeLeft b r=left.length:=by
 obtain ⟨es,clock,since,seen,c0,h1,_,_,h4,_,h6,_⟩:=h;simp only [World.rangeLeft,h1,h4];have:=congrArg List.length h6;simpa using this
theorem ls_at {C M:Nat} {sv:Value} {w:World} {A:Option Addr} {n cap:Nat} {xs:List (List ByteArray)} (h:SlRep 1 M (RLs C sv) w (.slice A n cap) xs) {k:Nat} (hk:k<xs.length) :
    ∃ b off v,A=some ⟨b,off,none⟩∧w.cell? ⟨b,off+k,none⟩=some v∧Nms C w v xs[k]:=by
 obtain ⟨A1,cap1,hv,_,_,h3⟩:=h;obtain ⟨b,off,cs,hA,hl,hc,v,hr,hN,_⟩:=h3 k _ (List.getElem?_eq_getElem hk);injection hv with hv _ _
 subst hr;refine ⟨b,off,v,hv.trans hA,?_,hN⟩;have:=hc 0 _ rfl
 rwa [Nat.mul_one,Nat.add_zero] at this
theorem in_at {M:Nat} {w:World} {A:Option Addr} {n cap:Nat} {xs:List Nat} (h:SlRep 1 M RIn w (.slice A n cap) xs) {k:Nat} (hk:k<xs.length) :
    ∃ b off,A=some ⟨b,off,none⟩∧w.cell? ⟨b,off+k,none⟩=some (.int .i64 (xs[k]:Nat)):=by
 obtain ⟨A1,cap1,hv,_,_,h3⟩:=h;obtain ⟨b,off,cs,hA,hl,hc,hr⟩:=h3 k _ (List.getElem?_eq_getElem hk);injection hv with hv _ _
 obtain rfl:cs=_:=hr;refine ⟨b,off,hv.trans hA,?_⟩;have:=hc 0 _ rfl
 rwa [Nat.mul_one,Nat.add_zero] at this
theorem lowAcc {G:Gr} {T:TS} (h:SoundT T) (h0:0<T.out.length) (k:Nat) (l:List ByteArray):∀ x ∈ l.foldl (lowR G T.inn k) [],x<T.out.length :=
 foldl_inv (P:=fun acc:List Nat => ∀ x ∈ acc,x<T.out.length) (fun _ _ hh => lowR_all (fun t => h.lk h0 t) hh) _ _ (fun x hx => by cases hx)
theorem lowAccS {T:TS} (h:SoundT T) (h0:0<T.out.length) (k:Nat) (l:List ByteArray) {acc:List Nat} (ha:∀ x ∈ acc,x<T.out.length):∀ x ∈ l.foldl (lowS T.inn k) acc,x<T.out.length :=
 foldl_inv (P:=fun acc:List Nat => ∀ x ∈ acc,x<T.out.length) (fun _ _ hh => lowS_all (fun t => h.lk h0 t) hh) _ _ ha
theorem pickP_lt {T:TS} {wt:Nat→Int}:∀ {m a:Nat},pickP T wt m=some a→a<m
 | 0,a,h => by cases h
 | m+1,a,h => by
  unfold pickP at h
  split at h
  ·have:=Option.some.inj h;omega
  ·have:=pickP_lt h;omega
theorem aboveP_lt {G:Gr} {T:TS} {n j:Nat}:∀ x ∈ aboveP G T n j,x<n:=fun x hx => by
 unfold aboveP at hx;exact List.mem_range.1 (List.mem_filter.1 hx).1
theorem aboveP_len (G:Gr) (T:TS) (n j:Nat):(aboveP G T n j).length≤n:=by
 unfold aboveP;have:=List.length_filter_le (fun k => decide (j ∈ lowerP G T k)) (List.range n)
 rwa [List.length_range] at this
def pkV:Option Nat→Value
 | none => .int .i64 (-1)
 | some a => .int .i64 (a:Nat)
theorem headN_at {C:Nat} {W:World} {v:Value} {p:List ByteArray} (h:Nms C W v p) (hp:p≠[]):∃ b o c,v = .slice (some ⟨b,o,none⟩) p.length c∧W.cell? ⟨b,o,none⟩=some (.string (p.headD ⟨#[]⟩)):=by
 obtain ⟨A,c,rfl,_,_⟩:=h.rep.form;have hl:0<p.length:=List.length_pos_iff.2 hp;obtain ⟨b,o,rfl,hc⟩:=nm_at h.rep hl;refine ⟨b,o,c,rfl,?_⟩;cases p with
 | nil => exact absurd rfl hp
 | cons x r => exact hc
theorem less_cmpS (x y:ByteArray):Op.bytesLess x.toList y.toList=decide (cmpS x y<0):=by
 rw [cmpBytes_less,ByteArray.toList_eq,ByteArray.toList_eq];rfl
theorem headP_at {T:TS} {i:Nat} (hi:i<T.out.length):headP T i=(T.out[i]).headD ⟨#[]⟩:=by
 unfold headP;rw [List.getD_eq_getElem?_getD,List.getElem?_eq_getElem hi];rfl
abbrev tSt:TypeId:=139
def setE (L:List ByteArray):List (ByteArray×Value):=L.map fun s => (s,.agg #[])
theorem zeroU (w:World):(zeroValue 103).run Tryz.prog w = .ok (.agg #[]) w:=by kernel_rfl
section
variable {w:World} {b:Nat} {L:List ByteArray} {p:ByteArray}
theorem setE_ok (h:∀ s ∈ L,s.size≤140737488351232):∀ q ∈ setE L,q.1.size≤maxLen:=fun q hq => by
 obtain ⟨s,hs,rfl⟩:=List.mem_map.1 hq;exact Nat.le_trans (h s hs) (by unfold maxLen;omega)
theorem set_look (h:MapE strV w b (setE L)) (hs:∀ s ∈ L,s.size≤140737488351232) (hp:p.size≤140737488351232):(Instr.lookup tSt (.map (some b)) (.string p) true).run Tryz.prog w = .ok (.tuple #[.agg #[],.bool (decide (p ∈ L))]) w:=by
 have h1:=(h.look (t:=tSt) keyStr (setE_ok hs) Tryz.underlying139 zeroU (x:=p) (Nat.le_trans hp (by unfold maxLen;omega))).2
 by_cases e:p ∈ L
 ·obtain ⟨i,hi⟩:=List.getElem?_of_mem e;have hg:getE (setE L) p=some (.agg #[]):=getE_at h.nodup (j:=i) (by unfold setE;rw [List.getElem?_map,hi];rfl);rw [hg] at h1;rw [decide_eq_true e];exact h1
 ·have hg:getE (setE L) p=none:=getE_none fun q hq he => e (by
    obtain ⟨s,hs,rfl⟩:=List.mem_map.1 hq;rw [← he];exact hs)
  rw [hg] at h1;rw [decide_eq_false e];exact h1
theorem set_add (h:MapE strV w b (setE L)) (hs:∀ s ∈ L,s.size≤140737488351232) (hp:p.size≤140737488351232):∃ w',(Instr.mapUpdate tSt (.map (some b)) (.string p) (.agg #[])).run Tryz.prog w = .ok () w'∧MapE strV w' b (setE (addF L p))∧w.grownBy w' (some b):=by
 have hpm:p.size≤maxLen:=Nat.le_trans hp (by unfold maxLen;omega)
 by_cases e:p ∈ L
 ·obtain ⟨i,hi⟩:=List.getElem?_of_mem e;have hat:(setE L)[i]?=some (p,.agg #[]):=by unfold setE;rw [List.getElem?_map,hi];rfl
  obtain ⟨w',h1,h2,h3⟩:=h.put (t:=tSt) keyStr (setE_ok hs) Tryz.underlying139 (x:=p) hpm hat (.agg #[]);refine ⟨w',h1,?_,h3⟩
  have e1:(setE L).set i (p,.agg #[])=setE L:=by
   refine List.ext_getElem? fun j => ?_;rw [List.getElem?_set]
   by_cases hj:i=j
   ·subst hj;rw [if_pos rfl,if_pos (List.getElem?_eq_some_iff.1 hat).1,hat]
   ·rw [if_neg hj]
  rw [e1] at h2;unfold addF;rw [if_pos e];exact h2
 ·obtain ⟨w',h1,h2,h3⟩:=h.push (t:=tSt) keyStr (setE_ok hs) Tryz.underlying139 (x:=p) hpm (fun q hq he => e (by
    obtain ⟨s,hs,rfl⟩:=List.mem_map.1 hq;rw [← he];exact hs)) (.agg #[])
  refine ⟨w',h1,?_,h3⟩;unfold addF;rw [if_neg e];have e1:setE (L++[p])=setE L++[(p,.agg #[])]:=by unfold setE;rw [List.map_append];rfl
  rw [e1];exact h2
end
theorem addF_mem {L:List ByteArray} {v x:ByteArray}:x ∈ addF L v↔x ∈ L∨x=v:=by
 unfold addF
 split
 ·rename_i h
  constructor
  ·exact .inl
  ·rintro (h1|rfl)
   ·exact h1
   ·exact h
 ·rw [List.mem_append,List.mem_singleton]
theorem foldF_mem:∀ (vs L:List ByteArray) (x:ByteArray),x ∈ vs.foldl addF L↔x ∈ L∨x ∈ vs
 | [],L,x => by simp
 | v :: r,L,x => by
  rw [List.foldl_cons,foldF_mem r,addF_mem,List.mem_cons,or_assoc]
def headsP (rs:List Ru):List ByteArray:=(rs.map (·.p)).foldl addF []
def Ed.strictIn (e:Ed) (H:List ByteArray):Bool:=decide (e.t ∈ H) && !decide (e.k=1)
def oneP (rs:List Ru):Bool:=!rs.any Ru.agg && !(edgesP rs).any fun e => e.strictIn (headsP rs)
theorem infoEdZ:(Tryz.prog.info? 129).map (fun i => (i.zero,i.size))=some (some (.agg #[.string ⟨#[]⟩,.string ⟨#[]⟩,.int .i8 0,.int .i64 0]),4):=by kernel_rfl
theorem ed_at {M:Nat} {w:World} {A:Option Addr} {n cap:Nat} {xs:List Ed} (h:SlRep 4 M REd w (.slice A n cap) xs) {k:Nat} (hk:k<xs.length) :
    ∃ b off,A=some ⟨b,off,none⟩∧∀ j v,([.string (xs[k]).f,.string (xs[k]).t,.int .i8 (xs[k]).k,.int .i64 (xs[k]).r]:List Value)[j]?=some v→w.cell? ⟨b,off+k * 4+j,none⟩=some v:=by
 obtain ⟨A1,cap1,hv,_,_,h3⟩:=h;obtain ⟨b,off,cs,hA,hl,hc,hr⟩:=h3 k _ (List.getElem?_eq_getElem hk);injection hv with hv _ _
 obtain rfl:cs=_:=hr;exact ⟨b,off,hv.trans hA,fun j v hj => by rw [Nat.add_assoc];exact hc j v hj⟩
theorem ed_to (rs:List Ru) (hp:∀ r ∈ rs,∀ x ∈ r.b,x.p.size≤140737488351232):∀ e ∈ edgesP rs,e.t.size≤140737488351232:=fun e he => by
 unfold edgesP at he;obtain ⟨⟨r,i⟩,hr,he⟩:=List.mem_flatMap.1 he;unfold Ru.edges at he;obtain ⟨x,hx,rfl⟩:=List.mem_map.1 he
 have hr2:r ∈ rs:=by
  have:=List.mem_zipIdx hr;obtain ⟨_,_,h3⟩:=this;rw [h3];exact List.getElem_mem _
 exact hp r hr2 x (List.mem_filter.1 hx).1
theorem rus_ok {M:Nat} {w:World} {v:Value} {rs:List Ru} (h:SlRep 3 M RRu w v rs):(∀ r ∈ rs,r.p.size≤140737488351232)∧∀ r ∈ rs,∀ x ∈ r.b,x.p.size≤140737488351232:=by
 refine ⟨fun r hr => ?_,fun r hr x hx => ?_⟩
 ·obtain ⟨cs,hv,bv,_,h1,_⟩:=sl_mem h r hr;exact h1
 ·obtain ⟨cs,hv,bv,_,_,_,h2⟩:=sl_mem h r hr;obtain ⟨cs',hr'⟩:=sl_mem h2 x hx;obtain ⟨_,_,_,_,_,_,_,_,_,_,_,hc⟩:=lt_cs hr';exact hc.pw
set_option maxHeartbeats 4000000 in
set_option maxRecDepth 100000 in
theorem one_any {M:Nat} (A:Option Addr) (c:Nat) (rs:List Ru) (w:World) (h:SlRep 3 M RRu w (.slice A rs.length c) rs) (hM:M≤9223372036854775807) (hS:Small rs) :
    Calls Tryz.prog 76 #[.slice A rs.length c] w fun e w' => e = .returned (.bool (oneP rs))∧Fut w w':=by
 obtain ⟨_,_,hv,hl1,hl2⟩:=h.form;have hxl:rs.length≤9223372036854775807:=by omega
 have H:=Hh h;have hok:=rus_ok h;have HE:=Hh (fun W (hW:Fut w W) => edges_any A c rs W (h.fut RRu.stays hW) hM hS);have HO:=Hh hok.1;have HT:=Hh (ed_to rs hok.2);have HN:=Hh hS.edges;obtain ⟨r0,hr0⟩:∃ b,oneP rs=b:=⟨_,rfl⟩
 rw [hr0];replace hr0:=Hh hr0;clear h hS hl1 hl2 hv hok;have hm:=MapE.new (kv:=strV) w;have HF0:=Hh (Fut.alloc w (.map #[] 0));have HI:=Hh (show MapE strV (w.alloc (.map #[] 0)) w.heap.size (setE (((rs.take 0).map (·.p)).foldl addF [])) from hm);clear hm;have hmm:=@run_makeMap Tryz.prog;go_enter Tryz.func76,Tryz.ntmps76;go_wp2_with fail;clear hmm;go_loopw [13] (fun i wr => ∃ k:Nat,k≤rs.length∧i = .int .i64 k∧Hid (Fut w wr)∧Hid (MapE strV wr w.heap.size (setE (((rs.take k).map (·.p)).foldl addF [])))∧Hid (∀ r ∈ rs.take k,r.agg=false)) (fun i _ => rs.length - (intOf i).toNat)
 case atStart => exact ⟨0,Nat.zero_le _,rfl,HF0,HI,Hh (fun r hr => by simp at hr)⟩
 case round =>
  obtain ⟨k,hk,rfl,hF,hI,hA⟩:=hrel
  by_cases hlt:k<rs.length
  ·have hltI:(k:Int)<rs.length:=by omega
   have e0:(0:Int)≤k∧(k:Int)<rs.length:=by omega
   obtain ⟨b',off,Ah,ch,Ab,cb,rfl,u0,u1,u2,hp,hh1,hh2⟩:=ru_at H.out hlt;have hnx:=Hh (show ((rs.take (k+1)).map (·.p)).foldl addF []=addF (((rs.take k).map (·.p)).foldl addF []) (rs[k]).p by rw [List.take_succ_eq_append_getElem hlt,List.map_append,List.foldl_append];rfl);have htk:=Hh (List.take_succ_eq_append_getElem hlt);have hmem:=Hh (List.getElem_mem hlt)
   have hsz:∀ s ∈ ((rs.take k).map (·.p)).foldl addF [],s.size≤140737488351232:=fun s hs => by
    rcases (foldF_mem _ _ _).1 hs with hs|hs
    ·cases hs
    ·obtain ⟨r,hr,rfl⟩:=List.mem_map.1 hs;exact HO.out r (List.mem_of_mem_take hr)
   generalize rs[k]=r at *;have hcs9:=Hh (three_cells (hF.out.cell u0) (hF.out.cell u1) (hF.out.cell u2));obtain ⟨L,hL⟩:∃ L,((rs.take k).map (·.p)).foldl addF []=L:=⟨_,rfl⟩
   rw [hL] at hI hnx hsz;obtain ⟨w2,hw2⟩:∃ W,wr.alloc (.cells [.string r.p,.slice Ah r.h.length ch,.slice Ab r.b.length cb].toArray 82)=W:=⟨_,rfl⟩
   have f1:Fut wr w2:=by rw [← hw2];exact Fut.alloc _ _
   have hrb:w2.heap[wr.heap.size]?=some (.cells #[.string r.p,.slice Ah r.h.length ch,.slice Ab r.b.length cb] 82 (0,0)):=by rw [← hw2];exact heap_alloc_new wr _
   have q0:=cell_at hrb 0 (.string r.p) rfl;have q1:=cell_at hrb 1 (.slice Ah r.h.length ch) rfl;have q2:=cell_at hrb 2 (.slice Ab r.b.length cb) rfl
   have hone:∀ v ∈ ([.string r.p,.slice Ah r.h.length ch,.slice Ab r.b.length cb]:List Value),v.oneCell'=true:=fun v hv => by
    simp only [List.mem_cons,List.not_mem_nil,or_false] at hv;rcases hv with rfl|rfl|rfl <;> rfl
   have F2:=Hh (hF.out.trans f1);have HC:=Hh (agg_any r Ah Ab ch cb w2 (hh1.fut RAr.stays F2.out));have hw2h:=Hh hw2;have hI2:=Hh (hI.out.fut f1);have HRB:=Hh hrb;clear hw2 f1 hI u0 u1 u2 hL hrb hh1 hh2;obtain ⟨g,hg⟩:∃ g,r.agg=g:=⟨_,rfl⟩
   rw [hg] at HC;replace hg:=Hh hg;cases g
   ·go_wp2_with (first|(refine wpList_rangeBox [.string r.p,.slice Ah r.h.length ch,.slice Ab r.b.length cb] rfl rfl rfl rfl rfl rfl rfl hcs9.out Tryz.underlying82 infoRu rfl hone rfl rfl hw2h.out ?_));refine HC.out.mono ?_;rintro e w3 ⟨rfl,f3⟩;have q0':=cell_at (f3.block HRB.out) 0 (.string r.p) rfl;obtain ⟨w4,hr4,hm4,hg4⟩:=set_add (hI2.out.fut f3) hsz hp;have O4:Only (fun k => k=w.heap.size) w3 w4:=Only.grown hg4 fun k hk => (Option.some.inj hk).symm;have O5:Only (fun k => w.heap.size≤k) w w4:=(Only.fut (F2.out.trans f3)).trans (O4.mono fun k _ hk => by omega);have HF4:=Hh (O5.toFut fun k hk => hk);have HM4:=Hh (show MapE strV w4 w.heap.size (setE (((rs.take (k+1)).map (·.p)).foldl addF [])) by rw [hnx.out];exact hm4)
    have HA4:=Hh (show ∀ r ∈ rs.take (k+1),r.agg=false from fun x hx => by
     rw [htk.out,List.mem_append] at hx;rcases hx with hx|hx
     ·exact hA.out x hx
     ·rw [List.mem_singleton] at hx;subst hx;exact hg.out)
    clear f3 hm4 hg4 O4 O5 hsz hp HC q0 q1 q2;go_wp2;go_roundw
    case rel => exact ⟨k+1,by omega,by go_num,HF4,HM4,HA4⟩
    case measure => simp [intOf] <;> omega
   ·obtain rfl:r0=false:=by
      rw [← hr0.out];have h9:rs.any Ru.agg=true:=List.any_eq_true.2 ⟨r,hmem.out,hg.out⟩;unfold oneP;rw [h9];rfl
    go_wp2_with (first|(refine wpList_rangeBox [.string r.p,.slice Ah r.h.length ch,.slice Ab r.b.length cb] rfl rfl rfl rfl rfl rfl rfl hcs9.out Tryz.underlying82 infoRu rfl hone rfl rfl hw2h.out ?_));refine HC.out.mono ?_;rintro e w3 ⟨rfl,f3⟩;go_wp2;go_ret;exact ⟨rfl,F2.out.trans f3⟩
  ·obtain rfl:k=rs.length:=by omega
   rw [List.take_length] at hI hA;have hag:rs.any Ru.agg=false:=List.any_eq_false.2 fun x hx => by rw [hA.out x hx];decide
   have hr1:=Hh (show (!(edgesP rs).any fun e => e.strictIn (headsP rs))=r0 by
    have:=hr0.out;unfold oneP at this;rw [hag] at this;exact this)
   have HIm:=Hh (show MapE strV wr w.heap.size (setE (headsP rs)) from hI.out)
   have hHs:=Hh (show ∀ s ∈ headsP rs,s.size≤140737488351232 from fun s hs => by
    rcases (foldF_mem _ _ _).1 hs with hs|hs
    ·cases hs
    ·obtain ⟨r,hr,rfl⟩:=List.mem_map.1 hs;exact HO.out r hr)
   have HC:=Hh (HE.out wr hF.out);generalize edgesP rs=es at *;generalize headsP rs=hd at *;have hFr:=Hh hF.out;clear hI hA hag hr0 HE HI HF0 hF;obtain ⟨wo,hwo⟩:∃ x,x=wr:=⟨_,rfl⟩
   subst hwo;go_wp2_with fail;refine HC.out.mono ?_;rintro e w3 ⟨v,rfl,ho,f3⟩;obtain ⟨Ae,ce,rfl,_,_⟩:=ho.rep.form;have hn:=HN.out;have HOw:=Hh ho;have HM3:=Hh (HIm.out.fut f3);have HF3:=Hh (hFr.out.trans f3);clear ho f3 HC;go_wp2_with fail;go_loopw [28] (fun i W => ∃ k:Nat,k≤es.length∧i = .int .i64 k∧Hid (Fut w3 W)∧Hid (∀ e ∈ es.take k,e.strictIn hd=false)) (fun i _ => es.length - (intOf i).toNat)
   case atStart => exact ⟨0,Nat.zero_le _,rfl,Hh (Fut.refl _),Hh (fun r hr => by simp at hr)⟩
   case round =>
    obtain ⟨k,hk,rfl,hF,hA⟩:=hrel
    by_cases hlt:k<es.length
    ·have hltI:(k:Int)<es.length:=by omega
     have e0:(0:Int)≤k∧(k:Int)<es.length:=by omega
     obtain ⟨b',off,rfl,hcs⟩:=ed_at (HOw.out.fut REd.stays hF.out).rep hlt;have htk:=Hh (List.take_succ_eq_append_getElem hlt);have hmem:=Hh (List.getElem_mem hlt);have hets:=HT.out _ hmem.out;generalize es[k]=x at *;obtain ⟨w4,hw4⟩:∃ W,wr.alloc (.cells [.string x.f,.string x.t,.int .i8 x.k,.int .i64 x.r].toArray 129)=W:=⟨_,rfl⟩
     have f1:Fut wr w4:=by rw [← hw4];exact Fut.alloc _ _
     have hrb:w4.heap[wr.heap.size]?=some (.cells #[.string x.f,.string x.t,.int .i8 x.k,.int .i64 x.r] 129 (0,0)):=by rw [← hw4];exact heap_alloc_new wr _
     have q1:=cell_at hrb 1 (.string x.t) rfl;have f2:=Fut.alloc w4 (.cells #[] 103);have q2:=f2.cell (cell_at hrb 2 (.int .i8 x.k) rfl);have hL:=set_look (HM3.out.fut (hF.out.trans f1)) hHs.out hets
     have hone:∀ v ∈ ([.string x.f,.string x.t,.int .i8 x.k,.int .i64 x.r]:List Value),v.oneCell'=true:=fun v hv => by
      simp only [List.mem_cons,List.not_mem_nil,or_false] at hv;rcases hv with rfl|rfl|rfl|rfl <;> rfl
     have hw4h:=Hh hw4;have hcs9:=Hh hcs;have FN:=Hh ((hF.out.trans f1).trans f2);clear hw4 f1 f2 hrb hcs hets;have hst:x.strictIn hd=(decide (x.t ∈ hd) && !decide (x.k=1)):=rfl
     have next:x.strictIn hd=false→Hid (∀ e ∈ es.take (k+1),e.strictIn hd=false):=fun hx => Hh fun y hy => by
      rw [htk.out,List.mem_append] at hy;rcases hy with hy|hy
      ·exact hA.out y hy
      ·rw [List.mem_singleton] at hy;subst hy;exact hx
     by_cases e1:x.t ∈ hd
     ·rw [decide_eq_true e1] at hL hst
      by_cases e2:x.k=1
      ·have HA4:=next (by rw [hst,e2];rfl)
       clear next hst e1
       go_wp2_with (first|(refine wpList_rangeBox [.string x.f,.string x.t,.int .i8 x.k,.int .i64 x.r] rfl rfl rfl rfl rfl rfl rfl hcs9.out Tryz.underlying129 infoEdZ rfl hone rfl rfl hw4h.out ?_));go_roundw
       case rel => exact ⟨k+1,by omega,by go_num,FN,HA4⟩
       case measure => simp [intOf] <;> omega
      ·obtain rfl:r0=false:=by
         rw [← hr1.out];have h9:(es.any fun e => e.strictIn hd)=true:=List.any_eq_true.2 ⟨x,hmem.out,by rw [hst,decide_eq_false e2];rfl⟩;rw [h9];rfl
       clear next hst e1
       go_wp2_with (first|(refine wpList_rangeBox [.string x.f,.string x.t,.int .i8 x.k,.int .i64 x.r] rfl rfl rfl rfl rfl rfl rfl hcs9.out Tryz.underlying129 infoEdZ rfl hone rfl rfl hw4h.out ?_));go_ret;exact ⟨rfl,HF3.out.trans FN.out⟩
     ·rw [decide_eq_false e1] at hL hst;have HA4:=next (by rw [hst];rfl)
      clear next hst e1
      go_wp2_with (first|(refine wpList_rangeBox [.string x.f,.string x.t,.int .i8 x.k,.int .i64 x.r] rfl rfl rfl rfl rfl rfl rfl hcs9.out Tryz.underlying129 infoEdZ rfl hone rfl rfl hw4h.out ?_));go_roundw
      case rel => exact ⟨k+1,by omega,by go_num,FN,HA4⟩
      case measure => simp [intOf] <;> omega
    ·obtain rfl:k=es.length:=by omega
     rw [List.take_length] at hA
     obtain rfl:r0=true:=by
      rw [← hr1.out];have h9:(es.any fun e => e.strictIn hd)=false:=List.any_eq_false.2 fun x hx => by rw [hA.out x hx];decide
      rw [h9];rfl
     go_wp2;go_ret;exact ⟨rfl,HF3.out.trans hF.out⟩
end Go.Proofs.YtobabnpllokkaaaGreatDoor
namespace Go.Proofs.YtobabnpllokkaaaGreatDoor
open Go.RowKit
def plainP (rs:List Ru):Bool:=!rs.any Ru.makes && oneP rs
set_option maxHeartbeats 1600000 in
set_option maxRecDepth 100000 in
theorem idxR_any {M:Nat} (A:Option Addr) (c:Nat) (rs:List Ru) (w:World) (h:SlRep 3 M RRu w (.slice A rs.length c) rs) (hM:M≤9223372036854775807) (hS:Small rs) :
    Calls Tryz.prog 246 #[.slice A rs.length c,.func (.func 197) #[] #[]] w fun e w' => ∃ r:Int,e = .returned (.int .i64 r)∧decide (0≤r)=rs.any Ru.makes∧Fut w w':=by
 have H:=Hh h;have HS:=Hh hS;obtain ⟨_,_,hv,hl1,hl2⟩:=h.form;have hxl:rs.length≤9223372036854775807:=by omega
 clear h hv hl1 hl2 hS;go_enter Tryz.func246,Tryz.ntmps246;go_wp2_with fail;go_loopw [8] (fun i wr => ∃ k:Nat,k≤rs.length∧i = .int .i64 k∧Hid (∀ x ∈ rs.take k,x.makes=false)∧Hid (Fut w wr)) (fun i _ => rs.length - (intOf i).toNat)
 case atStart => exact ⟨0,Nat.zero_le _,rfl,Hh (fun x hx => by simp at hx),Hh (Fut.refl _)⟩
 case round =>
  obtain ⟨k,hk,rfl,hI,hF⟩:=hrel
  by_cases hlt:k<rs.length
  ·have hltI:(k:Int)<rs.length:=by omega
   have e0:(0:Int)≤k∧(k:Int)<rs.length:=by omega
   obtain ⟨b,off,Ah,ch,Ab,cb,rfl,u0,u1,u2,hp,hh1,hh2⟩:=ru_at H.out hlt;have y0:=hF.out.cell u0;have y1:=hF.out.cell u1;have y2:=hF.out.cell u2;have hnx:Hid (rs.take (k+1)=rs.take k++[rs[k]]):=Hh (List.take_succ_eq_append_getElem hlt);have hmem:rs[k] ∈ rs:=List.getElem_mem hlt;have hbd:=(HS.out.mem hmem).1;generalize rs[k]=r at *;have HD:=Hh (makes_any r Ah Ab ch cb wr hp (hh1.fut RAr.stays hF.out) (hh2.fut RLt.stays hF.out) (by omega));obtain ⟨d,hd⟩:∃ d,r.makes=d:=⟨_,rfl⟩
   have hd':=Hh hd;rw [hd] at HD;clear hd u0 u1 u2 hh1 hh2;cases d
   ·go_wp2_with fail;refine HD.out.mono ?_;rintro e w3 ⟨rfl,f3⟩;have F3:=Hh (hF.out.trans f3)
    have hI2:Hid (∀ x ∈ rs.take (k+1),x.makes=false):=Hh fun x hx => by
     rw [hnx.out,List.mem_append] at hx;rcases hx with hx|hx
     ·exact hI.out x hx
     ·rw [List.mem_singleton] at hx;subst hx;exact hd'.out
    clear f3;go_wp2;go_roundw
    case rel => exact ⟨k+1,by omega,by go_num,hI2,F3⟩
    case measure => simp [intOf] <;> omega
   ·go_wp2_with fail;refine HD.out.mono ?_;rintro e w3 ⟨rfl,f3⟩;go_wp2;go_ret
    exact ⟨k,rfl,by
     have h9:rs.any Ru.makes=true:=List.any_eq_true.2 ⟨_,hmem,hd'.out⟩;rw [h9];simp,hF.out.trans f3⟩
  ·obtain rfl:k=rs.length:=by omega
   rw [List.take_length] at hI;go_wp2;go_ret
   exact ⟨-1,rfl,by
    have h9:rs.any Ru.makes=false:=List.any_eq_false.2 fun x hx => by rw [hI.out x hx];decide
    rw [h9];decide,hF.out⟩
set_option maxHeartbeats 1600000 in
theorem contR_any {M:Nat} (A:Option Addr) (c:Nat) (rs:List Ru) (w:World) (h:SlRep 3 M RRu w (.slice A rs.length c) rs) (hM:M≤9223372036854775807) (hS:Small rs) :
    Calls Tryz.prog 196 #[.slice A rs.length c,.func (.func 197) #[] #[]] w fun e w' => e = .returned (.bool (rs.any Ru.makes))∧Fut w w':=by
 have HI:=Hh (idxR_any A c rs w h hM hS);obtain ⟨b,hb⟩:∃ b,(rs.any Ru.makes)=b:=⟨_,rfl⟩
 rw [hb] at HI ⊢;clear h hb;go_enter Tryz.func196,Tryz.ntmps196;go_wp2_with fail;refine HI.out.mono ?_;rintro e w1 ⟨r,rfl,hr,f1⟩
 by_cases h0:0≤r
 ·obtain rfl:b=true:=by rw [← hr];simp [h0]
  have h0':r≥0:=h0;go_wp2;go_ret;exact ⟨by first|rfl|simp,f1⟩
 ·obtain rfl:b=false:=by rw [← hr];simp [h0]
  have h0':¬ r≥0:=h0;go_wp2;go_ret;exact ⟨by first|rfl|simp,f1⟩
set_option maxHeartbeats 1600000 in
theorem plain_any {M:Nat} (A:Option Addr) (c:Nat) (rs:List Ru) (w:World) (h:SlRep 3 M RRu w (.slice A rs.length c) rs) (hM:M≤9223372036854775807) (hS:Small rs) :
    Calls Tryz.prog 75 #[.slice A rs.length c] w fun e w' => e = .returned (.bool (plainP rs))∧Fut w w':=by
 have HC:=Hh (contR_any A c rs w h hM hS);have HO:=Hh (fun W (hW:Fut w W) => one_any A c rs W (h.fut RRu.stays hW) hM hS);unfold plainP;obtain ⟨a,ha⟩:∃ b,(rs.any Ru.makes)=b:=⟨_,rfl⟩
 obtain ⟨b,hb⟩:∃ b,oneP rs=b:=⟨_,rfl⟩
 rw [ha] at HC ⊢;rw [hb] at HO ⊢;clear h ha hb;cases a
 ·go_enter Tryz.func75,Tryz.ntmps75;go_wp2_with fail;refine HC.out.mono ?_;rintro e w1 ⟨rfl,f1⟩;go_wp2_with fail;refine (HO.out _ f1).mono ?_;rintro e w2 ⟨rfl,f2⟩;go_wp2;go_ret;exact ⟨by first|rfl|simp,f1.trans f2⟩
 ·go_enter Tryz.func75,Tryz.ntmps75;go_wp2_with fail;refine HC.out.mono ?_;rintro e w1 ⟨rfl,f1⟩;go_wp2;go_ret;exact ⟨by first|rfl|simp,f1⟩
end Go.Proofs.YtobabnpllokkaaaGreatDoor
namespace Go.Proofs.YtobabnpllokkaaaGreatDoor
open Go.RowKit Go.WideMaps Go.Maps
def liveT:TS:=⟨[(xB,1),(yB,2),(zB,3)],[],[(xB,0),(yB,1),(zB,2)],[[xB],[yB],[zB]]⟩
theorem live_small:Small otherP:=by unfold Small;decide +kernel
theorem live_smallY:Small [ruY]:=by unfold Small;decide +kernel
theorem live_len:(drawP otherP).length≤100000000:=by decide +kernel
theorem live_tarj:tarjT (drawP otherP) 10=some liveT:=by kernel_rfl
theorem live_blame:blameE liveT.inn (edgesP otherP)=none:=by kernel_rfl
theorem live_raise:raiseR (edgesP otherP) 5 []=some [(zB,1)]:=by kernel_rfl
theorem live_levels:((drawP otherP).sorted.map fun s => (s,lk0 [(zB,1)] s))=[(xB,0),(yB,0),(zB,1)]:=by kernel_rfl
theorem live_parts:partsP (drawP otherP) liveT=some [[xB],[yB],[zB]]:=by kernel_rfl
theorem live_sound:SoundT liveT:=⟨by decide +kernel,by decide +kernel,by decide⟩
theorem live_pz:∀ p ∈ liveT.out,∀ x ∈ p,x.size≤140737488351232:=by decide +kernel
theorem live_plain:plainP [ruY]=true:=by kernel_rfl
theorem live_one:oneP otherP=false:=by kernel_rfl
theorem look0 {w:World} {b:Nat} {l:Nums} {s:ByteArray} (h:MapE strV w b (encN l)) (hs:∀ x ∈ l,x.1.size≤140737488351232) (hp:s.size≤140737488351232):(Instr.lookup tVm (.map (some b)) (.string s) false).run Tryz.prog w = .ok (.int .i64 (lk0 l s:Nat)) w:=(look_num h hs hp).2
theorem ed_to' (rs:List Ru) (hp:∀ r ∈ rs,∀ x ∈ r.b,x.p.size≤140737488351232):∀ e ∈ edgesP rs,e.t.size≤140737488351232:=fun e he => by
 unfold edgesP at he;obtain ⟨⟨r,i⟩,hr,he⟩:=List.mem_flatMap.1 he;unfold Ru.edges at he;obtain ⟨x,hx,rfl⟩:=List.mem_map.1 he
 have hr2:r ∈ rs:=by
  have:=List.mem_zipIdx hr;obtain ⟨_,_,h3⟩:=this;rw [h3];exact List.getElem_mem _
 exact hp r hr2 x (List.mem_filter.1 hx).1
theorem rus_ok' {M:Nat} {w:World} {v:Value} {rs:List Ru} (h:SlRep 3 M RRu w v rs):(∀ r ∈ rs,r.p.size≤140737488351232)∧∀ r ∈ rs,∀ x ∈ r.b,x.p.size≤140737488351232:=by
 refine ⟨fun r hr => ?_,fun r hr x hx => ?_⟩
 ·obtain ⟨cs,hv,bv,_,h1,_⟩:=sl_mem h r hr;exact h1
 ·obtain ⟨cs,hv,bv,_,_,_,h2⟩:=sl_mem h r hr;obtain ⟨cs',hr'⟩:=sl_mem h2 x hx;obtain ⟨_,_,_,_,_,_,_,_,_,_,_,hc⟩:=lt_cs hr';exact hc.pw
theorem infoEdZ':(Tryz.prog.info? 129).map (fun i => (i.zero,i.size))=some (some (.agg #[.string ⟨#[]⟩,.string ⟨#[]⟩,.int .i8 0,.int .i64 0]),4):=by kernel_rfl
theorem ed_at' {M:Nat} {w:World} {A:Option Addr} {n cap:Nat} {xs:List Ed} (h:SlRep 4 M REd w (.slice A n cap) xs) {k:Nat} (hk:k<xs.length) :
    ∃ b off,A=some ⟨b,off,none⟩∧∀ j v,([.string (xs[k]).f,.string (xs[k]).t,.int .i8 (xs[k]).k,.int .i64 (xs[k]).r]:List Value)[j]?=some v→w.cell? ⟨b,off+k * 4+j,none⟩=some v:=by
 obtain ⟨A1,cap1,hv,_,_,h3⟩:=h;obtain ⟨b,off,cs,hA,hl,hc,hr⟩:=h3 k _ (List.getElem?_eq_getElem hk);injection hv with hv _ _
 obtain rfl:cs=_:=hr;exact ⟨b,off,hv.trans hA,fun j v hj => by rw [Nat.add_assoc];exact hc j v hj⟩
theorem gri_base {B B' mb:Nat} {W:World} {G:Gr} (h:GrI B W mb G) (hB:B'≤B):GrI B' W mb G:=by
 obtain ⟨vs,h1,h2,h3,h4,h5,h6⟩:=h;exact ⟨vs,h1,h2,fun i v x a b => (h3 i v x a b).base hB,h4,h5,Nat.le_trans hB h6⟩
theorem edgeP_ok {M:Nat} {w:World} {v:Value} {rs:List Ru} (h:SlRep 3 M RRu w v rs):∀ e ∈ edgesP rs,e.f.size≤140737488351232∧e.t.size≤140737488351232:=fun e he => by
 refine ⟨?_,ed_to' rs (rus_ok' h).2 e he⟩;unfold edgesP at he;obtain ⟨⟨r,i⟩,hr,he⟩:=List.mem_flatMap.1 he;unfold Ru.edges at he;obtain ⟨x,hx,rfl⟩:=List.mem_map.1 he
 have hr2:r ∈ rs:=by
  obtain ⟨_,_,h3⟩:=List.mem_zipIdx hr;rw [h3];exact List.getElem_mem _
 exact (rus_ok' h).1 r hr2
end Go.Proofs.YtobabnpllokkaaaGreatDoor
