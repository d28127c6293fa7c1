/- Parts. -/
import Derived.Test.YtobabnpllokkaaaGreatDoorP07
import Derived.Test.YtobabnpllokkaaaGreatDoorP00
set_option linter.unusedSimpArgs false
set_option linter.unusedVariables false
namespace Go.Proofs.YtobabnpllokkaaaGreatDoor
open Go.RowKit Go.WideMaps Go.Maps
abbrev tVm:TypeId:=97
abbrev tVl':TypeId:=76
def numE:Nat→List ByteArray→List (ByteArray×Value)
 | _,[] => []
 | i,s :: r => (s,.int .i64 ((i+1:Nat):Int)) :: numE (i+1) r
theorem numE_keys:∀ (i:Nat) (L:List ByteArray),(numE i L).map (·.1)=L
 | _,[] => rfl
 | i,s :: r => by rw [numE,List.map_cons,numE_keys]
theorem numE_snoc:∀ (i:Nat) (L:List ByteArray) (s:ByteArray),numE i (L++[s])=numE i L++[(s,.int .i64 ((i+L.length+1:Nat):Int))]
 | i,[],s => by simp [numE]
 | i,x :: r,s => by
  rw [List.cons_append,numE,numE,numE_snoc,List.length_cons,List.cons_append];rw [show i+1+r.length+1=i+(r.length+1)+1 by omega]
theorem numE_in:∀ (i:Nat) (L:List ByteArray) (s:ByteArray),s ∈ L→∃ n:Nat,0<n∧getE (numE i L) s=some (.int .i64 (n:Int))
 | _,[],s,h => by cases h
 | i,x :: r,s,h => by
  unfold getE numE
  by_cases e:x=s
  ·subst e;exact ⟨i+1,by omega,by simp⟩
  ·obtain ⟨n,h1,h2⟩:=numE_in (i+1) r s ((List.mem_cons.1 h).resolve_left fun h' => e h'.symm);refine ⟨n,h1,?_⟩;unfold getE at h2;rw [List.find?_cons_of_neg (by simpa using e)];exact h2
structure VarSt (B:Nat) (w:World) (bl bm mb:Nat) (L:List ByteArray) (lv:Value):Prop where
 lcell:w.heap[bl]?=some (.cells #[lv] tVl' (0,0))
 list:OwnL 1 B 9 RNm w lv L
 mcell:w.heap[bm]?=some (.cells #[.map (some mb)] tVm (0,0))
 map:MapE strV w mb (numE 0 L)
 sizes:∀ s ∈ L,s.size≤140737488351232
 low:B≤bl∧B≤bm∧B≤mb
instance memBA (v:ByteArray):(L:List ByteArray)→Decidable (v ∈ L)
 | [] => isFalse (by simp)
 | a :: r => if h:v=a then isTrue (by rw [h];exact List.mem_cons_self) else match memBA v r with
  | isTrue h2 => isTrue (List.mem_cons_of_mem _ h2)
  | isFalse h2 => isFalse fun h3 => (List.mem_cons.1 h3).elim h h2
def addVar (L:List ByteArray) (v:ByteArray):List ByteArray:=if v.toList=[] then L else if v.toList=[95] then L else if v ∈ L then L else L++[v]
theorem zeroInt (w:World):(zeroValue 3).run Tryz.prog w = .ok (.int .i64 0) w:=by kernel_rfl
theorem infoNm:(Tryz.prog.info? 9).map (fun i => (i.zero,i.size,i.bytes))=some (some (.string ⟨#[]⟩),1,16):=by kernel_rfl
theorem infoNms:(Tryz.prog.info? 76).map (·.size)=some 1:=by kernel_rfl
theorem RNm.one:∀ (w:World) cs x,RNm w cs x→∀ u ∈ cs,u.oneCell'=true:=fun w cs x h u hu => by
 obtain rfl:cs=_:=h;simp only [List.mem_singleton] at hu;subst hu;rfl
theorem RNm.keeps {e:TypeId}:Keeps e RNm:=fun _ _ _ _ _ h _ _ => h
theorem nmOne (w:World) (s:ByteArray) (e:TypeId):SlRep 1 1 RNm (w.alloc (.cells #[.string s] e)) (.slice (some ⟨w.heap.size,0,none⟩) 1 1) [s] :=
 ⟨_,1,rfl,Nat.le_refl _,Nat.le_refl _,fun i y hy => by
  have hi:i=0:=by
   have:=(List.getElem?_eq_some_iff.1 hy).1;simp at this;omega
  subst hi;simp at hy;subst hy;refine ⟨w.heap.size,0,_,rfl,rfl,fun j c hj => ?_,rfl⟩;rw [show 0+(0 * 1+j)=j by omega];have h0:=heap_alloc_new w (.cells #[.string s] e);simp only [World.cell?,h0];simpa using hj⟩
theorem wpList_mapNum {ops:Array Oper} {rest:List Oper} {o:Oper} {a:Act} {Q:Exit→Act→World→Prop} {w:World} {b:Nat} {l:List (ByteArray×Value)} {p:ByteArray} {v:Value} (hgd:Region.wanted o (yielded ops a.tmps)=true) (m y z:Operand)
    (ho:o.op = .mapUpdate tVm m y z) (hm:a.eval m = .map (some b)) (hy:a.eval y = .string p) (hz:a.eval z=v) (h:MapE strV w b l) (hok:∀ q ∈ l,q.1.size≤maxLen) (hv:p.size≤maxLen) (hn:∀ q ∈ l,q.1≠p)
    (hk:∀ w',MapE strV w' b (l++[(p,v)])→w.grownBy w' (some b)→wpList Tryz.prog ops Q rest (a.put o.dst undef) w'):wpList Tryz.prog ops Q (o :: rest) a w:=by
 obtain ⟨w',hr,h2,h3⟩:=h.push keyStr hok Tryz.underlying97 hv hn v;refine wpList_of_skip hgd (w':=w') ?_ (hk w' h2 h3);have hy':a.eval y=strV p:=hy;unfold execOp;simp only [ho,hm,hy',hz,hr,Sem.run_bind,Sem.run_pure,Result.andThen_ok]
section
variable {B bl bm mb:Nat} {w w':World} {L:List ByteArray} {lv:Value}
theorem VarSt.sep (h:VarSt B w bl bm mb L lv):bl≠bm∧mb≠bl∧mb≠bm∧∀ k,lv.ownBlock=some k→k≠bl∧k≠bm∧k≠mb:=by
 refine ⟨fun e => ?_,map_ne h.map h.lcell,map_ne h.map h.mcell,fun k hk => ?_⟩
 ·have h1:=h.lcell;rw [e,h.mcell] at h1;injection h1 with h1
  injection h1 with _ h2
  exact absurd h2 (by decide)
 ·obtain ⟨arr,h1⟩:=h.list.typed k hk;refine ⟨fun e => ?_,fun e => ?_,fun e => map_ne h.map h1 e.symm⟩
  ·rw [e,h.lcell] at h1;injection h1 with h1
   injection h1 with _ h2
   exact absurd h2 (by decide)
  ·rw [e,h.mcell] at h1;injection h1 with h1
   injection h1 with _ h2
   exact absurd h2 (by decide)
theorem VarSt.fut (h:VarSt B w bl bm mb L lv) (hf:Fut w w'):VarSt B w' bl bm mb L lv :=
 ⟨hf.block h.lcell,h.list.fut RNm.stays hf,hf.block h.mcell,h.map.fut hf,h.sizes,h.low⟩
def vfoot (bl mb:Nat) (lv:Value) (k:Nat):Prop:=k=bl∨k=mb∨lv.ownBlock=some k
theorem VarSt.grow {W:World} {v:ByteArray} {v':Value} (h:VarSt B W bl bm mb L lv) (o:OwnL 1 B 9 RNm w' v' (L++[v])) (g:W.grownBy w' lv.ownBlock) (sn:SameOrNew W lv v') (hv:v.size≤140737488351232) :
    w'.cell? ⟨bl,0,none⟩=some lv∧w'.frozen? ⟨bl,0,none⟩=false∧MapE strV (w'.setCell ⟨bl,0,none⟩ v') mb (numE 0 L)∧(w'.setCell ⟨bl,0,none⟩ v').cell? ⟨bm,0,none⟩=some (.map (some mb))∧(w'.setCell ⟨bl,0,none⟩ v').cell? ⟨bl,0,none⟩=some v' ∧
     Only (vfoot bl mb lv) W (w'.setCell ⟨bl,0,none⟩ v')∧∀ w2 w3,Fut (w'.setCell ⟨bl,0,none⟩ v') w2→MapE strV w3 mb (numE 0 (L++[v]))→w2.grownBy w3 (some mb)→VarSt B w3 bl bm mb (L++[v]) v':=by
 obtain ⟨s1,s2,s3,s4⟩:=h.sep;have O1:Only (fun k => lv.ownBlock=some k) W w':=Only.grown g fun k hk => hk;have b1:=O1.keeps h.lcell (fun e => (s4 _ e).1 rfl);have b2:=O1.keeps h.mcell (fun e => (s4 _ e).2.1 rfl);have m1:MapE strV w' mb (numE 0 L):=h.map.kept (O1.block mb h.map.lt fun e => (s4 _ e).2.2 rfl);have O2:Only (fun k => k=bl) w' (w'.setCell ⟨bl,0,none⟩ v'):=Only.set _ _ rfl;have b3:(w'.setCell ⟨bl,0,none⟩ v').heap[bl]?=some (.cells #[v'] tVl' (0,0)):=by simp [World.setCell,Array.getElem?_modify,b1]
 have b4:=O2.keeps b2 (fun e => s1 e.symm);have m2:MapE strV (w'.setCell ⟨bl,0,none⟩ v') mb (numE 0 L):=m1.kept (O2.block mb m1.lt s2)
 have hob:∀ k,v'.ownBlock=some k→k≠bl∧k≠mb:=fun k hk => by
  rcases sn with e|e
  ·rw [e] at hk;exact ⟨(s4 k hk).1,(s4 k hk).2.2⟩
  ·have h1:=e k hk;have h2:=(Array.getElem?_eq_some_iff.1 h.lcell).1;have h3:=h.map.lt;exact ⟨by omega,by omega⟩
 have o2:OwnL 1 B 9 RNm (w'.setCell ⟨bl,0,none⟩ v') v' (L++[v]):=o.only (fun _ _ h => h) O2 fun k hk => (hob k hk).1;refine ⟨cell_at b1 0 _ rfl,free_at b1 0,m2,cell_at b4 0 _ rfl,cell_at b3 0 _ rfl,(O1.mono fun k _ hk => .inr (.inr hk)).trans (O2.mono fun k _ hk => .inl hk),fun w2 w3 f2 m3 g3 => ?_⟩;have O3:Only (fun k => k=mb) (w'.setCell ⟨bl,0,none⟩ v') w3:=(Only.fut f2).trans (Only.grown g3 fun k hk => by injection hk with hk;exact hk.symm)
 exact ⟨O3.keeps b3 (fun e => s2 e.symm),o2.only (fun _ _ h => h) O3 fun k hk => (hob k hk).2,O3.keeps b4 (fun e => s3 e.symm),m3,fun s hs => by
  rcases List.mem_append.1 hs with hs|hs
  ·exact h.sizes s hs
  ·rw [List.mem_singleton] at hs;subst hs;exact hv,h.low⟩
end
set_option maxHeartbeats 2000000 in
set_option maxRecDepth 100000 in
theorem vars1_any {B bl bm mb pb po:Nat} {L:List ByteArray} {lv:Value} (v:ByteArray) (w:World) (h:VarSt B w bl bm mb L lv) (hp:w.cell? ⟨pb,po,none⟩=some (.string v)) (hv:v.size≤140737488351232) (hL:L.length≤1000000000000) (hBw:B≤w.heap.size) (hpb:pb<B) :
    Calls Tryz.prog 313 #[.pointer (some ⟨pb,po,none⟩),.pointer (some ⟨bm,0,none⟩),.pointer (some ⟨bl,0,none⟩)] w fun e w' => (∃ u,e = .returned u)∧∃ lv',VarSt B w' bl bm mb (addVar L v) lv'∧Only (fun k => vfoot bl mb lv k∨w.heap.size≤k) w w'∧(∀ k,lv'.ownBlock=some k→lv.ownBlock=some k∨w.heap.size≤k):=by
 have H:=Hh h;have y1:=cell_at h.mcell 0 _ rfl;have y2:=cell_at h.lcell 0 _ rfl
 have hok:∀ q ∈ numE 0 L,q.1.size≤maxLen:=fun q hq => by
  have:q.1 ∈ (numE 0 L).map (·.1):=List.mem_map.2 ⟨q,hq,rfl⟩;rw [numE_keys] at this;exact Nat.le_trans (h.sizes _ this) (by unfold maxLen;omega)
 have hvm:v.size≤maxLen:=Nat.le_trans hv (by unfold maxLen;omega);have HL:=Hh (fun W (hW:Fut w W) => show (Instr.lookup tVm (.map (some mb)) (.string v) false).run Tryz.prog W = .ok ((getE (numE 0 L) v).getD (.int .i64 0)) W from ((h.map.fut hW).look keyStr hok Tryz.underlying97 zeroInt (x:=v) hvm).1);clear h
 by_cases e1:v.toList=[]
 ·have hA:addVar L v=L:=if_pos e1;rw [hA];go_enter Tryz.func313,Tryz.ntmps313;go_wp2_with fail;refine wp_graph 21 [.d,.d,.d,.d,.d,.d,.d,.d,.d,.d,.d,.d,.d,.d,.d,.d,.d,.d,.d,.d,.d] (by kernel_rfl) (by kernel_rfl) (by kernel_rfl) ?_;simp only [takS,Exs]
  iterate 21 apply Exists.intro
  apply Run.valG (wanted_none rfl _)
  ·intro w1 h1 hk;go_simp;rfl
  simp only [actS];apply Run.valG (wanted_none rfl _)
  ·intro w1 h1 hk;have q0:=h1.cell hp;have hcw:=fun b o => Below.cell (p:=⟨b,o,none⟩) h1;go_simp;rfl
  simp only [actS];apply Run.valG (wanted_none rfl _)
  ·intro w1 h1 hk;go_simp;rfl
  simp only [actS];apply Run.valG (wanted_none rfl _)
  ·intro w1 h1 hk;have q0:=h1.cell hp;have hcw:=fun b o => Below.cell (p:=⟨b,o,none⟩) h1;go_simp;rfl
  simp only [actS]
  iterate 2
   apply Run.valG (wanted_none rfl _)
   ·intro w1 h1 hk;go_simp;rfl
   simp only [actS]
  iterate 5
   apply Run.skip (by first|(go_simp;done)|(go_simp;exact fun h => nomatch h));simp only [actS]
  iterate 2
   apply Run.valG (wanted_none rfl _)
   ·intro w1 h1 hk;go_simp;rfl
   simp only [actS]
  iterate 7
   apply Run.skip (by first|(go_simp;done)|(go_simp;exact fun h => nomatch h));simp only [actS]
  apply Run.valG (wanted_none rfl _)
  ·intro w1 h1 hk;go_simp;rfl
  simp only [actS];apply Run.done;intro w2 h2 hk;clear hk;have F:=(Fut.drew w).trans h2;go_wp2
  (try simp only [Exit.inBlock,Exit.then]);refine bodyPost_ret (results_none rfl _ _ _) rfl ?_
  exact ⟨⟨_,rfl⟩,lv,H.out.fut F,Only.fut F,fun k hk => .inl hk⟩
 have e1b:(v.toList == [])=false:=by rw [beq_eq_false_iff_ne];exact e1
 by_cases e2:v.toList=[95]
 ·have hA:addVar L v=L:=by unfold addVar;rw [if_neg e1,if_pos e2]
  rw [hA];go_enter Tryz.func313,Tryz.ntmps313;go_wp2_with fail;refine wp_graph 21 [.d,.d,.d,.d,.d,.d,.d,.d,.d,.d,.d,.d,.d,.d,.d,.d,.d,.d,.d,.d,.d] (by kernel_rfl) (by kernel_rfl) (by kernel_rfl) ?_;simp only [takS,Exs]
  iterate 21 apply Exists.intro
  apply Run.valG (wanted_none rfl _)
  ·intro w1 h1 hk;go_simp;rfl
  simp only [actS];apply Run.valG (wanted_none rfl _)
  ·intro w1 h1 hk;have q0:=h1.cell hp;have hcw:=fun b o => Below.cell (p:=⟨b,o,none⟩) h1;go_simp;rfl
  simp only [actS];apply Run.valG (wanted_none rfl _)
  ·intro w1 h1 hk;go_simp;rfl
  simp only [actS];apply Run.valG (wanted_none rfl _)
  ·intro w1 h1 hk;have q0:=h1.cell hp;have hcw:=fun b o => Below.cell (p:=⟨b,o,none⟩) h1;go_simp;rfl
  simp only [actS]
  iterate 2
   apply Run.valG (wanted_none rfl _)
   ·intro w1 h1 hk;go_simp;rfl
   simp only [actS]
  apply Run.valG (by go_simp)
  ·intro w1 h1 hk;go_simp;rfl
  simp only [actS];apply Run.valG (by go_simp)
  ·intro w1 h1 hk;have q0:=h1.cell hp;have hcw:=fun b o => Below.cell (p:=⟨b,o,none⟩) h1;go_simp;rfl
  simp only [actS];apply Run.valG (by go_simp)
  ·intro w1 h1 hk;go_simp;rfl
  simp only [actS];apply Run.valG (by go_simp)
  ·intro w1 h1 hk;have q0:=h1.cell hp;have hcw:=fun b o => Below.cell (p:=⟨b,o,none⟩) h1;go_simp;rfl
  simp only [actS];apply Run.valG (by go_simp)
  ·intro w1 h1 hk;go_simp;rfl
  simp only [actS]
  iterate 2
   apply Run.valG (wanted_none rfl _)
   ·intro w1 h1 hk;go_simp;rfl
   simp only [actS]
  iterate 7
   apply Run.skip (by first|(go_simp;done)|(go_simp;exact fun h => nomatch h));simp only [actS]
  apply Run.valG (wanted_none rfl _)
  ·intro w1 h1 hk;go_simp;rfl
  simp only [actS];apply Run.done;intro w2 h2 hk;clear hk;have F:=(Fut.drew w).trans h2;go_wp2
  (try simp only [Exit.inBlock,Exit.then]);refine bodyPost_ret (results_none rfl _ _ _) rfl ?_
  exact ⟨⟨_,rfl⟩,lv,H.out.fut F,Only.fut F,fun k hk => .inl hk⟩
 have e2b:(v.toList == [95])=false:=by rw [beq_eq_false_iff_ne];exact e2
 by_cases e3:v ∈ L
 ·have hA:addVar L v=L:=by unfold addVar;rw [if_neg e1,if_neg e2,if_pos e3]
  rw [hA];obtain ⟨n,hn,hg⟩:=numE_in 0 L v e3;rw [hg,Option.getD_some] at HL;have hn':(n:Int) > 0:=by omega
  have hn'':0<n:=by omega
  clear hg;go_enter Tryz.func313,Tryz.ntmps313;go_wp2_with fail;refine wp_graph 21 [.d,.d,.d,.d,.d,.d,.d,.d,.d,.d,.d,.d,.d,.d,.d,.d,.d,.d,.d,.d,.d] (by kernel_rfl) (by kernel_rfl) (by kernel_rfl) ?_;simp only [takS,Exs]
  iterate 21 apply Exists.intro
  apply Run.valG (wanted_none rfl _)
  ·intro w1 h1 hk;go_simp;rfl
  simp only [actS];apply Run.valG (wanted_none rfl _)
  ·intro w1 h1 hk;have q0:=h1.cell hp;have q1:=h1.cell y1;have q2:=HL.out _ ((Fut.drew _).trans h1);have hcw:=fun b o => Below.cell (p:=⟨b,o,none⟩) h1;go_simp;rfl
  simp only [actS];apply Run.valG (wanted_none rfl _)
  ·intro w1 h1 hk;go_simp;rfl
  simp only [actS]
  iterate 2
   apply Run.valG (wanted_none rfl _)
   ·intro w1 h1 hk;have q0:=h1.cell hp;have q1:=h1.cell y1;have q2:=HL.out _ ((Fut.drew _).trans h1);have hcw:=fun b o => Below.cell (p:=⟨b,o,none⟩) h1;go_simp;rfl
   simp only [actS]
  apply Run.valG (wanted_none rfl _)
  ·intro w1 h1 hk;go_simp;rfl
  simp only [actS];apply Run.valG (by go_simp)
  ·intro w1 h1 hk;go_simp;rfl
  simp only [actS];apply Run.valG (by go_simp)
  ·intro w1 h1 hk;have q0:=h1.cell hp;have q1:=h1.cell y1;have q2:=HL.out _ ((Fut.drew _).trans h1);have hcw:=fun b o => Below.cell (p:=⟨b,o,none⟩) h1;go_simp;rfl
  simp only [actS];apply Run.valG (by go_simp)
  ·intro w1 h1 hk;go_simp;rfl
  simp only [actS]
  iterate 2
   apply Run.valG (by go_simp)
   ·intro w1 h1 hk;have q0:=h1.cell hp;have q1:=h1.cell y1;have q2:=HL.out _ ((Fut.drew _).trans h1);have hcw:=fun b o => Below.cell (p:=⟨b,o,none⟩) h1;go_simp;rfl
   simp only [actS]
  iterate 2
   apply Run.valG (wanted_none rfl _)
   ·intro w1 h1 hk;go_simp;rfl
   simp only [actS]
  apply Run.valG (by go_simp)
  ·intro w1 h1 hk;have q0:=h1.cell hp;have q1:=h1.cell y1;have q2:=HL.out _ ((Fut.drew _).trans h1);have hcw:=fun b o => Below.cell (p:=⟨b,o,none⟩) h1;go_simp;rfl
  simp only [actS];apply Run.valG (by go_simp)
  ·intro w1 h1 hk;go_simp;rfl
  simp only [actS];apply Run.valG (by go_simp)
  ·intro w1 h1 hk;have q0:=h1.cell hp;have q1:=h1.cell y1;have q2:=HL.out _ ((Fut.drew _).trans h1);have hcw:=fun b o => Below.cell (p:=⟨b,o,none⟩) h1;go_simp;rfl
  simp only [actS];apply Run.valG (by go_simp)
  ·intro w1 h1 hk;go_simp;rfl
  simp only [actS]
  iterate 3
   apply Run.valG (by go_simp)
   ·intro w1 h1 hk;have q0:=h1.cell hp;have q1:=h1.cell y1;have q2:=HL.out _ ((Fut.drew _).trans h1);have hcw:=fun b o => Below.cell (p:=⟨b,o,none⟩) h1;go_simp;rfl
   simp only [actS]
  apply Run.valG (wanted_none rfl _)
  ·intro w1 h1 hk;go_simp;rfl
  simp only [actS];apply Run.done;intro w2 h2 hk;clear hk;have F:=(Fut.drew w).trans h2;go_wp2
  (try simp only [Exit.inBlock,Exit.then]);refine bodyPost_ret (results_none rfl _ _ _) rfl ?_
  exact ⟨⟨_,rfl⟩,lv,H.out.fut F,Only.fut F,fun k hk => .inl hk⟩
 ·have hA:addVar L v=L++[v]:=by unfold addVar;rw [if_neg e1,if_neg e2,if_neg e3]
  rw [hA]
  have hnk:∀ q ∈ numE 0 L,q.1≠v:=fun q hq e => e3 (by
   have h9:q.1 ∈ (numE 0 L).map (·.1):=List.mem_map.2 ⟨q,hq,rfl⟩;rw [numE_keys,e] at h9;exact h9)
  rw [getE_none hnk,Option.getD_none] at HL;have HOK:=Hh hok;have HNK:=Hh hnk;clear hok hnk hA;go_enter Tryz.func313,Tryz.ntmps313;go_wp2_with fail;refine wp_graph 21 [.d,.d,.d,.d,.d,.d,.d,.d,.d,.d,.d,.d,.d,.d,.d,.d,.d,.d,.d,.d,.d] (by kernel_rfl) (by kernel_rfl) (by kernel_rfl) ?_;simp only [takS,Exs]
  iterate 21 apply Exists.intro
  apply Run.valG (wanted_none rfl _)
  ·intro w1 h1 hk;go_simp;rfl
  simp only [actS];apply Run.valG (wanted_none rfl _)
  ·intro w1 h1 hk;have q0:=h1.cell hp;have q1:=h1.cell y1;have q2:=HL.out _ ((Fut.drew _).trans h1);have hcw:=fun b o => Below.cell (p:=⟨b,o,none⟩) h1;go_simp;rfl
  simp only [actS];apply Run.valG (wanted_none rfl _)
  ·intro w1 h1 hk;go_simp;rfl
  simp only [actS]
  iterate 2
   apply Run.valG (wanted_none rfl _)
   ·intro w1 h1 hk;have q0:=h1.cell hp;have q1:=h1.cell y1;have q2:=HL.out _ ((Fut.drew _).trans h1);have hcw:=fun b o => Below.cell (p:=⟨b,o,none⟩) h1;go_simp;rfl
   simp only [actS]
  apply Run.valG (wanted_none rfl _)
  ·intro w1 h1 hk;go_simp;rfl
  simp only [actS];apply Run.valG (by go_simp)
  ·intro w1 h1 hk;go_simp;rfl
  simp only [actS];apply Run.valG (by go_simp)
  ·intro w1 h1 hk;have q0:=h1.cell hp;have q1:=h1.cell y1;have q2:=HL.out _ ((Fut.drew _).trans h1);have hcw:=fun b o => Below.cell (p:=⟨b,o,none⟩) h1;go_simp;rfl
  simp only [actS];apply Run.valG (by go_simp)
  ·intro w1 h1 hk;go_simp;rfl
  simp only [actS]
  iterate 2
   apply Run.valG (by go_simp)
   ·intro w1 h1 hk;have q0:=h1.cell hp;have q1:=h1.cell y1;have q2:=HL.out _ ((Fut.drew _).trans h1);have hcw:=fun b o => Below.cell (p:=⟨b,o,none⟩) h1;go_simp;rfl
   simp only [actS]
  iterate 2
   apply Run.valG (wanted_none rfl _)
   ·intro w1 h1 hk;go_simp;rfl
   simp only [actS]
  apply Run.valG (by go_simp)
  ·intro w1 h1 hk;have q0:=h1.cell hp;have q1:=h1.cell y1;have q2:=HL.out _ ((Fut.drew _).trans h1);have hcw:=fun b o => Below.cell (p:=⟨b,o,none⟩) h1;go_simp;rfl
  simp only [actS];apply Run.valG (by go_simp)
  ·intro w1 h1 hk;go_simp;rfl
  simp only [actS];apply Run.valG (by go_simp)
  ·intro w1 h1 hk;have q0:=h1.cell hp;have q1:=h1.cell y1;have q2:=HL.out _ ((Fut.drew _).trans h1);have hcw:=fun b o => Below.cell (p:=⟨b,o,none⟩) h1;go_simp;rfl
  simp only [actS];apply Run.valG (by go_simp)
  ·intro w1 h1 hk;go_simp;rfl
  simp only [actS]
  iterate 3
   apply Run.valG (by go_simp)
   ·intro w1 h1 hk;have q0:=h1.cell hp;have q1:=h1.cell y1;have q2:=HL.out _ ((Fut.drew _).trans h1);have hcw:=fun b o => Below.cell (p:=⟨b,o,none⟩) h1;go_simp;rfl
   simp only [actS]
  apply Run.valG (wanted_none rfl _)
  ·intro w1 h1 hk;go_simp;rfl
  simp only [actS];apply Run.done;intro w2 h2 hk;clear hk;have F2:=(Fut.drew w).trans h2;replace H:=Hh (H.out.fut F2);replace hp:=F2.cell hp;have y3:=F2.cell y1;have y4:=F2.cell y2;replace F2:=Hh F2;clear HL h2 y1 y2;go_wp2_with fail;refine wp_graph 6 [.d,.d,.d,.d,.d,.r (fun u W => (∃ A,u = .slice A 1 1)∧SlRep 1 1 RNm W u [v])] (by kernel_rfl) (by kernel_rfl) (by kernel_rfl) ?_;simp only [takS,Exs]
  iterate 5 apply Exists.intro
  apply Run.valG (wanted_none rfl _)
  ·intro w1 h1 hk;have q0:=h1.cell hp;have q1:=h1.cell y4;have hcw:=fun b o => Below.cell (p:=⟨b,o,none⟩) h1;go_simp;rfl
  simp only [actS];apply Run.valG (wanted_none rfl _)
  ·intro w1 h1 hk;go_simp;rfl
  simp only [actS];apply Run.valG (wanted_none rfl _)
  ·intro w1 h1 hk;have q0:=h1.cell hp;have q1:=h1.cell y4;have hcw:=fun b o => Below.cell (p:=⟨b,o,none⟩) h1;go_simp;rfl
  simp only [actS];apply Run.valG (wanted_none rfl _)
  ·intro w1 h1 hk;go_simp;rfl
  simp only [actS];apply Run.valG (wanted_none rfl _)
  ·intro w1 h1 hk;have q0:=h1.cell hp;have q1:=h1.cell y4;have hcw:=fun b o => Below.cell (p:=⟨b,o,none⟩) h1;go_simp;rfl
  simp only [actS];apply Run.valR (wanted_none rfl _) (by intro v w w' hf hs;exact ⟨hs.1,hs.2.fut RNm.stays hf⟩)
  ·intro w1 h1 hk;have q0:=h1.cell hp;have q1:=h1.cell y4;go_simp;exact ⟨_,_,⟨rfl,rfl⟩,Fut.alloc _ _,⟨_,rfl⟩,nmOne _ _ _⟩
  intro v5;simp only [actS];apply Run.done;intro w2 h2 hk;obtain ⟨f5,_⟩:=hk;obtain ⟨⟨A5,rfl⟩,hS5⟩:=f5;have F3:=(Fut.drew _).trans h2;have HA:=H.out.fut F3;have hsep:=HA.sep;have F23:=F2.out.trans F3;have hF3:=F3.size;replace hS5:=Hh hS5;replace hp:=F3.cell hp;clear y3 y4 h2 H F2;replace HA:=Hh HA;replace F23:=Hh F23;go_wp2_with (first|(at_builtin;refine wpList_append_LB (R:=RNm) (B:=B) (M:=1) (xs:=L) (ys:=[v]) (e:=9) (by go_simp) _ _ tVl' rfl Tryz.underlying76 (.string ⟨#[]⟩) 16 infoNm rfl (by decide) RNm.one RNm.keeps rfl rfl HA.out.list hS5.out ?l3 ?l4 ?b3 ?k3))
  case l3 => simp [maxLen];omega
  case l4 => simp;omega
  case b3 => have:=F23.out.size;omega
  case k3 =>
  intro v' w' o' g' sn';obtain ⟨c1,c2,m2,c3,c4,O2,hK⟩:=HA.out.grow o' g' sn' hv;obtain ⟨A8,c8,rfl,hc8,_⟩:=o'.rep.form;rw [List.length_append,List.length_singleton] at hc8 c3 c4 m2 hK O2 ⊢;obtain ⟨w5,hw5⟩:∃ W,w'.setCell ⟨bl,0,none⟩ (.slice A8 (L.length+1) c8)=W:=⟨_,rfl⟩
  rw [hw5] at c3 c4 m2 hK O2;replace hK:=Hh hK
  have o8:∀ k,(Value.slice A8 (L.length+1) c8).ownBlock=some k→lv.ownBlock=some k∨w.heap.size≤k:=fun k hk => by
   rcases sn' with e|e
   ·left;rw [← e];rw [List.length_append,List.length_singleton];exact hk
   ·right
    have h9:=e k (by rw [List.length_append,List.length_singleton];exact hk);have:=F23.out.size;omega
  have OA:Only (fun k => vfoot bl mb lv k∨w.heap.size≤k) w w5:=(Only.fut F23.out).trans (O2.mono fun k _ hk => .inl hk);replace O2:=Hh O2;have hlow:=HA.out.low
  have hp5:=O2.out.cell hp (by
   rintro (h9|h9|h9)
   ·have h9:pb=bl:=h9;omega
   ·have h9:pb=mb:=h9;omega
   ·have h10:=(HA.out.list.block _ h9).1;have h10:B≤pb:=h10;omega)
  have hi2:=infoNms;go_wp2_with (first|(refine wpList_store_1 (wanted_none rfl _) _ _ rfl rfl rfl hi2 rfl c1 c2 hw5 ?_));clear hw5 c1 c2 g' sn' o' hp hF3 hsep;refine wp_graph 7 [.d,.d,.d,.d,.d,.d,.d] (by kernel_rfl) (by kernel_rfl) (by kernel_rfl) ?_;simp only [takS,Exs]
  iterate 7 apply Exists.intro
  apply Run.valG (wanted_none rfl _)
  ·intro w1 h1 hk;have q0:=h1.cell hp5;have q1:=h1.cell c3;have q2:=h1.cell c4;have hcw:=fun b o => Below.cell (p:=⟨b,o,none⟩) h1;go_simp;rfl
  simp only [actS];apply Run.valG (wanted_none rfl _)
  ·intro w1 h1 hk;go_simp;rfl
  simp only [actS];apply Run.valG (wanted_none rfl _)
  ·intro w1 h1 hk;have q0:=h1.cell hp5;have q1:=h1.cell c3;have q2:=h1.cell c4;have hcw:=fun b o => Below.cell (p:=⟨b,o,none⟩) h1;go_simp;rfl
  simp only [actS];apply Run.valG (wanted_none rfl _)
  ·intro w1 h1 hk;go_simp;rfl
  simp only [actS]
  iterate 3
   apply Run.valG (wanted_none rfl _)
   ·intro w1 h1 hk;have q0:=h1.cell hp5;have q1:=h1.cell c3;have q2:=h1.cell c4;have hcw:=fun b o => Below.cell (p:=⟨b,o,none⟩) h1;go_simp;rfl
   simp only [actS]
  apply Run.done;intro w2 h2 hk;clear hk;have F5:=(Fut.drew _).trans h2;have hOK2:∀ q ∈ numE 0 L,q.1.size≤maxLen:=HOK.out;refine wpList_mapNum (wanted_none rfl _) _ _ _ rfl rfl rfl rfl (m2.fut F5) HOK.out hvm HNK.out ?_;intro w6 m6 g6;replace m6:MapE strV w6 mb (numE 0 (L++[v])):=by rw [numE_snoc,show ((0+L.length+1:Nat):Int)=(L.length:Int)+1 by omega];exact m6
  have HV:=hK.out w2 w6 F5 m6 g6;have O6:Only (fun k => vfoot bl mb lv k∨w.heap.size≤k) w w6:=OA.trans ((Only.fut F5).trans (Only.grown g6 fun k hk => by injection hk with hk;exact .inl (.inr (.inl hk.symm))));go_wp2;go_end0;exact ⟨⟨_,rfl⟩,_,HV,O6,o8⟩
mutual
def Ex.vs:Ex→List ByteArray
 | .mk _ t ks => t.v :: Ex.vss ks
def Ex.vss:List Ex→List ByteArray
 | [] => []
 | k :: r => k.vs++Ex.vss r
end
theorem vss_flat:∀ l:List Ex,Ex.vss l=l.flatMap Ex.vs
 | [] => rfl
 | k :: r => by rw [Ex.vss,vss_flat r,List.flatMap_cons]
mutual
theorem Ex.vs_len:∀ x:Ex,x.vs.length=x.size
 | .mk _ t ks => by rw [Ex.vs,Ex.size,List.length_cons,Ex.vss_len ks];omega
theorem Ex.vss_len:∀ l:List Ex,(Ex.vss l).length=Ex.sizes l
 | [] => rfl
 | k :: r => by rw [Ex.vss,Ex.sizes,List.length_append,Ex.vs_len k,Ex.vss_len r]
end
def cbV (bl bm:Nat):Value:=.func (.func 313) #[] #[.pointer (some ⟨bm,0,none⟩),.pointer (some ⟨bl,0,none⟩)]
def Walks (w0:World) (bl bm mb:Nat) (x:Value) (vs:List ByteArray):Prop :=
 ∀ (W:World) (L:List ByteArray) (lv:Value),Fut w0 W→VarSt w0.heap.size W bl bm mb L lv→L.length+vs.length≤1000000000 →
  Calls Tryz.prog 312 #[x,cbV bl bm] W fun e W' => (∃ u,e = .returned u)∧∃ lv',VarSt w0.heap.size W' bl bm mb (vs.foldl addVar L) lv'∧Fut w0 W'
theorem addVar_len (L:List ByteArray) (v:ByteArray):(addVar L v).length≤L.length+1:=by
 unfold addVar
 split
 ·omega
 ·split
  ·omega
  ·split
   ·omega
   ·simp
theorem foldl_len:∀ (vs L:List ByteArray),(vs.foldl addVar L).length≤L.length+vs.length
 | [],L => by simp
 | v :: r,L => by
  rw [List.foldl_cons,List.length_cons];have h1:=foldl_len r (addVar L v);have h2:=addVar_len L v;omega
theorem fut_vars {w0 W W':World} {bl bm mb:Nat} {L:List ByteArray} {lv:Value} (h:VarSt w0.heap.size W bl bm mb L lv) (hF:Fut w0 W) (hO:Only (fun k => vfoot bl mb lv k∨W.heap.size≤k) W W'):Fut w0 W':=by
 have hs:=hF.size
 have h1:Only (fun k => w0.heap.size≤k) w0 W':=(Only.fut hF).trans (hO.mono fun k _ hk => by
  rcases hk with (hk|hk|hk)|hk
  ·rw [hk];exact h.low.1
  ·rw [hk];exact h.low.2.2
  ·exact (h.list.block k hk).1
  ·omega)
 exact h1.toFut fun k hk => hk
theorem cb_any {w0:World} {bl bm mb pb po:Nat} (v:ByteArray) (hp:w0.cell? ⟨pb,po,none⟩=some (.string v)) (hv:v.size≤140737488351232) {W:World} {L:List ByteArray} {lv:Value} (hF:Fut w0 W) (h:VarSt w0.heap.size W bl bm mb L lv) (hL:L.length≤1000000000) :
    Calls Tryz.prog 313 #[.pointer (some ⟨pb,po,none⟩),.pointer (some ⟨bm,0,none⟩),.pointer (some ⟨bl,0,none⟩)] W fun e W' => (∃ u,e = .returned u)∧∃ lv',VarSt w0.heap.size W' bl bm mb (addVar L v) lv'∧Fut w0 W' :=
 (vars1_any v W h (hF.cell hp) hv (by omega) hF.size (lt_of_cell hp)).mono fun e W' ⟨h1,lv',h2,h3,_⟩ => ⟨h1,lv',h2,fut_vars h hF h3⟩
theorem ta_no {P:Program} {x a t e:TypeId} {v:Value} (hu:P.underlying a=some (.pointer e)) (hz:∀ w,(zeroValue a).run P w = .ok (.pointer none) w) (hne:t≠a) (w:World) :
    (Instr.typeAssert (.iface t v) x a true).run P w = .ok (.tuple #[.pointer none,.bool false]) w:=by
 simp [Instr.typeAssert,run_underlying hu,hne,hz,Result.andThen]
theorem ta_yes {P:Program} {x a e:TypeId} {v:Value} (hu:P.underlying a=some (.pointer e)) (w:World) :
    (Instr.typeAssert (.iface a v) x a true).run P w = .ok (.tuple #[v,.bool true]) w:=by
 simp [Instr.typeAssert,run_underlying hu,Result.andThen]
theorem zpRu (w:World):(zeroValue 385).run Tryz.prog w = .ok (.pointer none) w:=by kernel_rfl
theorem zpLt (w:World):(zeroValue 439).run Tryz.prog w = .ok (.pointer none) w:=by kernel_rfl
theorem zpEx (w:World):(zeroValue 414).run Tryz.prog w = .ok (.pointer none) w:=by kernel_rfl
set_option maxHeartbeats 2000000 in
set_option maxRecDepth 100000 in
theorem walkA_any {w0:World} {bl bm mb pb po M:Nat} (A:Option Addr) (c:Nat) (ts:List Tm) (h:SlRep 4 M RTm w0 (.slice A ts.length c) ts) (hM:M≤9223372036854775807) (hp:w0.cell? ⟨pb,po+1,none⟩=some (.slice A ts.length c)):Walks w0 bl bm mb (.iface 413 (.pointer (some ⟨pb,po,none⟩))) (ts.map (·.v)):=by
 intro W L lv hF hV hL;have H:=Hh h;have HF:=Hh hF;have HV:=Hh hV;rw [List.length_map] at hL;obtain ⟨_,_,hv,hl1,hl2⟩:=h.form;have hxl:ts.length≤9223372036854775807:=by omega
 have HL:=Hh hL;have y1:=hF.cell hp;have hpc:=Hh hp;clear h hF hV hL hp hv hl1 hl2;unfold cbV;have t1:=@ta_no Tryz.prog 20 385 413 _ (.pointer (some ⟨pb,po,none⟩)) Tryz.underlying385 zpRu (by decide);have t2:=@ta_no Tryz.prog 20 439 413 _ (.pointer (some ⟨pb,po,none⟩)) Tryz.underlying439 zpLt (by decide);have t3:=@ta_no Tryz.prog 20 414 413 _ (.pointer (some ⟨pb,po,none⟩)) Tryz.underlying414 zpEx (by decide);have t4:=@ta_yes Tryz.prog 20 413 _ (.pointer (some ⟨pb,po,none⟩)) Tryz.underlying413;go_enter Tryz.func312,Tryz.ntmps312;go_wp2_with fail;clear t1 t2 t3 t4;go_loopw [107] (fun i wr => ∃ k:Nat,k≤ts.length∧i = .int .i64 k∧Hid (Fut w0 wr)∧Hid (∃ lv',VarSt w0.heap.size wr bl bm mb (((ts.take k).map (·.v)).foldl addVar L) lv')) (fun i _ => ts.length - (intOf i).toNat)
 case atStart => exact ⟨0,Nat.zero_le _,rfl,HF,Hh ⟨lv,HV.out⟩⟩
 case round =>
  obtain ⟨k,hk,rfl,hF,hV⟩:=hrel
  by_cases hlt:k<ts.length
  ·have hltI:(k:Int)<ts.length:=by omega
   have e0:(0:Int)≤k∧(k:Int)<ts.length:=by omega
   obtain ⟨b,off,rfl,hok,y0,_,_,_⟩:=tm_at H.out hlt;have hnx:Hid ((ts.take (k+1)).map (·.v)=(ts.take k).map (·.v)++[(ts[k]).v]):=Hh (by rw [List.take_succ_eq_append_getElem hlt,List.map_append];rfl);obtain ⟨lv1,hV1⟩:=hV.out;have hln:=foldl_len ((ts.take k).map (·.v)) L;rw [List.length_map,List.length_take] at hln;have hL9:=HL.out;have HC:=Hh (cb_any (ts[k]).v y0 hok.1 hF.out hV1 (by omega));have z1:=hF.out.cell hpc.out;clear hV1 hln hok y0 hV hL9;generalize (ts[k]).v=v at *;go_wp2_with fail;refine HC.out.mono ?_;rintro e w3 ⟨⟨u,rfl⟩,lv2,hV2,hF2⟩;have HV2:=Hh (show ∃ lv',VarSt w0.heap.size w3 bl bm mb (((ts.take (k+1)).map (·.v)).foldl addVar L) lv' from ⟨lv2,by rw [hnx.out,List.foldl_append];exact hV2⟩);have HF2:=Hh hF2;clear hV2 hF2;go_wp2;go_roundw
   case rel => exact ⟨k+1,by omega,by go_num,HF2,HV2⟩
   case measure => simp [intOf] <;> omega
  ·obtain rfl:k=ts.length:=by omega
   rw [List.take_length] at hV;go_wp2;go_end0;exact ⟨⟨_,rfl⟩,by obtain ⟨lv',h9⟩:=hV.out;exact ⟨lv',h9,hF.out⟩⟩
theorem vss_take {l:List Ex} {k:Nat} (hk:k<l.length):Ex.vss (l.take (k+1))=Ex.vss (l.take k)++(l[k]).vs:=by
 rw [vss_flat,vss_flat,List.take_succ_eq_append_getElem hk,List.flatMap_append];simp
theorem vss_le {l:List Ex} {k:Nat} (hk:k<l.length):(Ex.vss (l.take k)).length+(l[k]).vs.length≤(Ex.vss l).length:=by
 have h1:(Ex.vss l).length=(Ex.vss (l.take (k+1))).length+(Ex.vss (l.drop (k+1))).length:=by
  rw [← List.length_append,vss_flat,vss_flat,vss_flat,← List.flatMap_append,List.take_append_drop]
 rw [vss_take hk,List.length_append] at h1;omega
set_option maxHeartbeats 2000000 in
set_option maxRecDepth 100000 in
theorem walkE_any {w0:World} {bl bm mb:Nat}:∀ (n:Nat) (x:Ex) (cs:List Value) (pb po:Nat),RE n w0 cs x→(∀ j c,cs[j]?=some c→w0.cell? ⟨pb,po+j,none⟩=some c)→Walks w0 bl bm mb (.iface 414 (.pointer (some ⟨pb,po,none⟩))) x.vs
 | 0,_,_,_,_,h,_ => h.elim
 | n+1,.mk op t ks,cs,pb,po,h,hcs => by
  intro W L lv hF hV hL;obtain ⟨kv,rfl,h2,hok,hks⟩:=h;obtain ⟨A,c,rfl,hl1,hl2⟩:=hks.form;have y1:=hcs 1 _ rfl;have y5:=hcs 5 _ rfl;have H:=Hh hks;have HF:=Hh hF;rw [Ex.vs,List.length_cons] at hL;have HL:=Hh hL;have hxl:ks.length≤9223372036854775807:=by omega
  have HC:=Hh (cb_any t.v y1 hok.1 hF hV (by omega));have z5:=Hh y5;have IH:=Hh (fun (k:Nat) (hk:k<ks.length) (pb' po':Nat) (cs':List Value) (h:RE n w0 cs' ks[k]) (hc:∀ j c,cs'[j]?=some c→w0.cell? ⟨pb',po'+j,none⟩=some c) => walkE_any (bl:=bl) (bm:=bm) (mb:=mb) n ks[k] cs' pb' po' h hc);unfold Ex.vs;clear hks hF hV hL y5 hcs hok hl1 h2;generalize t.v=v at *;clear t;unfold cbV;have t1:=@ta_no Tryz.prog 20 385 414 _ (.pointer (some ⟨pb,po,none⟩)) Tryz.underlying385 zpRu (by decide);have t2:=@ta_no Tryz.prog 20 439 414 _ (.pointer (some ⟨pb,po,none⟩)) Tryz.underlying439 zpLt (by decide);have t3:=@ta_yes Tryz.prog 20 414 _ (.pointer (some ⟨pb,po,none⟩)) Tryz.underlying414;go_enter Tryz.func312,Tryz.ntmps312;go_wp2_with fail;refine HC.out.mono ?_;rintro e w1 ⟨⟨u,rfl⟩,lv1,hV1,hF1⟩;clear t1 t2 t3;have HF1:=Hh hF1;have HV1:=Hh hV1;have y5:=hF1.cell z5.out;clear hV1 hF1;go_wp2_with fail;go_loopw [86] (fun i wr => ∃ k:Nat,k≤ks.length∧i = .int .i64 k∧Hid (Fut w0 wr)∧Hid (∃ lv',VarSt w0.heap.size wr bl bm mb ((Ex.vss (ks.take k)).foldl addVar (addVar L v)) lv')) (fun i _ => ks.length - (intOf i).toNat)
  case atStart => exact ⟨0,Nat.zero_le _,rfl,HF1,Hh ⟨lv1,HV1.out⟩⟩
  case round =>
   obtain ⟨k,hk,rfl,hF,hV⟩:=hrel
   by_cases hlt:k<ks.length
   ·have hltI:(k:Int)<ks.length:=by omega
    have e0:(0:Int)≤k∧(k:Int)<ks.length:=by omega
    obtain ⟨A1,cap1,hv,_,_,h3⟩:=H.out;obtain ⟨b,off,cs,hA,hl,hc,hr⟩:=h3 k _ (List.getElem?_eq_getElem hlt);injection hv with hv hc1 hc2
    clear hc1 hc2;obtain rfl:=hv.trans hA;have hst:=Hh (vss_take hlt);obtain ⟨lv2,hV2⟩:=hV.out;have hln:=foldl_len (Ex.vss (ks.take k)) (addVar L v);have hl9:=addVar_len L v;have hL9:=HL.out;have hL8:=vss_le hlt;have HI:=Hh (IH.out k hlt b (off+k * 6) cs hr (fun j c hj => by rw [Nat.add_assoc];exact hc j c hj) wr _ lv2 hF.out hV2 (by omega));have z1:=hF.out.cell z5.out;clear hV2 hln hl9 hL9 hL8 h3 hc hr hV hl hv hA;generalize (ks[k]).vs=vs at *;unfold cbV at HI;go_wp2_with fail;refine HI.out.mono ?_;rintro e w3 ⟨⟨u,rfl⟩,lv2,hV2,hF2⟩;have HV2:=Hh (show ∃ lv',VarSt w0.heap.size w3 bl bm mb ((Ex.vss (ks.take (k+1))).foldl addVar (addVar L v)) lv' from ⟨lv2,by rw [hst.out,List.foldl_append];exact hV2⟩);have HF2:=Hh hF2;clear hV2 hF2;go_wp2;go_roundw
    case rel => exact ⟨k+1,by omega,by go_num,HF2,HV2⟩
    case measure => simp [intOf] <;> omega
   ·obtain rfl:k=ks.length:=by omega
    rw [List.take_length] at hV;go_wp2;go_end0;exact ⟨⟨_,rfl⟩,by obtain ⟨lv',h9⟩:=hV.out;exact ⟨lv',h9,hF.out⟩⟩
def Lt.vs (x:Lt):List ByteArray:=x.a.map (·.v)++(x.l.vs++x.d.vs)
set_option maxHeartbeats 2000000 in
set_option maxRecDepth 100000 in
theorem walkL_any {w0:World} {bl bm mb pb po:Nat} (x:Lt) (A:Option Addr) (c:Nat) (kl kd:Value) (h:LtC w0 x (.slice A x.a.length c) kl kd) (hp:∀ j c',(x.cs (.slice A x.a.length c) kl kd)[j]?=some c'→w0.cell? ⟨pb,po+j,none⟩=some c'):Walks w0 bl bm mb (.iface 439 (.pointer (some ⟨pb,po,none⟩))) x.vs:=by
 intro W L lv hF hV hL;unfold Lt.vs at hL ⊢;rw [List.length_append,List.length_append,List.length_map] at hL;obtain ⟨n1,h1⟩:=h.left;obtain ⟨n2,h2⟩:=h.right;have WA:=Hh (walkA_any (bl:=bl) (bm:=bm) (mb:=mb) (pb:=pb) (po:=po+1) A c x.a h.args (by omega) (hp 2 _ rfl))
 have WL:=Hh (walkE_any (bl:=bl) (bm:=bm) (mb:=mb) n1 x.l _ pb (po+4) h1 (fun j c' hj => by
  have hlt:j<6:=(List.getElem?_eq_some_iff.1 hj).1;rw [Nat.add_assoc];refine hp (4+j) c' ?_
  match j,hlt,hj with
  | 0,_,hj => exact hj
  | 1,_,hj => exact hj
  | 2,_,hj => exact hj
  | 3,_,hj => exact hj
  | 4,_,hj => exact hj
  | 5,_,hj => exact hj))
 have WR:=Hh (walkE_any (bl:=bl) (bm:=bm) (mb:=mb) n2 x.d _ pb (po+10) h2 (fun j c' hj => by
  have hlt:j<6:=(List.getElem?_eq_some_iff.1 hj).1;rw [Nat.add_assoc];refine hp (10+j) c' ?_
  match j,hlt,hj with
  | 0,_,hj => exact hj
  | 1,_,hj => exact hj
  | 2,_,hj => exact hj
  | 3,_,hj => exact hj
  | 4,_,hj => exact hj
  | 5,_,hj => exact hj))
 have hlA:=foldl_len (x.a.map (·.v)) L;have hlL:=foldl_len x.l.vs ((x.a.map (·.v)).foldl addVar L);rw [List.length_map] at hlA;have HA:=Hh (WA.out W L lv hF hV (by rw [List.length_map];omega));have hL1:((x.a.map (·.v)).foldl addVar L).length+x.l.vs.length≤1000000000:=by omega
 have hL2:(x.l.vs.foldl addVar ((x.a.map (·.v)).foldl addVar L)).length+x.d.vs.length≤1000000000:=by omega
 rw [List.foldl_append,List.foldl_append];clear h h1 h2 hp hlA hlL WA hL hF hV;generalize x.a.map (·.v)=va at *;generalize x.l.vs=vl at *;generalize x.d.vs=vd at *;unfold cbV at HA;have t1:=@ta_no Tryz.prog 20 385 439 _ (.pointer (some ⟨pb,po,none⟩)) Tryz.underlying385 zpRu (by decide);have t2:=@ta_yes Tryz.prog 20 439 _ (.pointer (some ⟨pb,po,none⟩)) Tryz.underlying439;unfold cbV;go_enter Tryz.func312,Tryz.ntmps312;go_wp2_with fail;refine HA.out.mono ?_;rintro e w1 ⟨⟨u,rfl⟩,lv1,hV1,hF1⟩;clear t1 t2;have HL:=Hh (WL.out w1 _ lv1 hF1 hV1 hL1);unfold cbV at HL;clear hV1 hF1;go_wp2_with fail;refine HL.out.mono ?_;rintro e w2 ⟨⟨u,rfl⟩,lv2,hV2,hF2⟩;have HR:=Hh (WR.out w2 _ lv2 hF2 hV2 hL2);unfold cbV at HR;clear hV2 hF2;go_wp2_with fail;refine HR.out.mono ?_;rintro e w3 ⟨⟨u,rfl⟩,lv3,hV3,hF3⟩;have H3:=Hh (And.intro hV3 hF3);clear hV3 hF3;go_wp2;go_end0;exact ⟨⟨_,rfl⟩,lv3,H3.out⟩
def Ru.hs (r:Ru):List ByteArray:=r.h.map (·.t.v)
def Ru.bs (r:Ru):List ByteArray:=r.b.flatMap Lt.vs
theorem bs_take {l:List Lt} {k:Nat} (hk:k<l.length):(l.take (k+1)).flatMap Lt.vs=(l.take k).flatMap Lt.vs++(l[k]).vs:=by
 rw [List.take_succ_eq_append_getElem hk,List.flatMap_append];simp
theorem bs_le {l:List Lt} {k:Nat} (hk:k<l.length):((l.take k).flatMap Lt.vs).length+(l[k]).vs.length≤(l.flatMap Lt.vs).length:=by
 have h1:(l.flatMap Lt.vs).length=((l.take (k+1)).flatMap Lt.vs).length+((l.drop (k+1)).flatMap Lt.vs).length:=by
  rw [← List.length_append,← List.flatMap_append,List.take_append_drop]
 rw [bs_take hk,List.length_append] at h1;omega
theorem ar_at {M:Nat} {w:World} {A:Option Addr} {n cap:Nat} {xs:List Ar} (h:SlRep 5 M RAr w (.slice A n cap) xs) {k:Nat} (hk:k<xs.length) :
    ∃ b off,A=some ⟨b,off,none⟩∧(Lit.int .i8 (xs[k]).g).wf=true∧(xs[k]).t.ok∧w.cell? ⟨b,off+k * 5,none⟩=some (.int .i8 (xs[k]).g)∧w.cell? ⟨b,off+k * 5+1,none⟩=some (.string (xs[k]).t.v)∧w.cell? ⟨b,off+k * 5+2,none⟩=some (.int .i8 (xs[k]).t.x.k)∧w.cell? ⟨b,off+k * 5+3,none⟩=some (.int .i64 (xs[k]).t.x.n)∧w.cell? ⟨b,off+k * 5+4,none⟩=some (.string (xs[k]).t.x.s):=by
 obtain ⟨A1,cap1,hv,_,_,h3⟩:=h;obtain ⟨b,off,cs,hA,hl,hc,hr,hg,hok⟩:=h3 k _ (List.getElem?_eq_getElem hk);injection hv with hv _ _
 subst hr;exact ⟨b,off,hv.trans hA,hg,hok,hc 0 _ rfl,hc 1 _ rfl,hc 2 _ rfl,hc 3 _ rfl,hc 4 _ rfl⟩
set_option maxHeartbeats 2000000 in
set_option maxRecDepth 100000 in
theorem walkR_any {w0:World} {bl bm mb pb po:Nat} (x:Ru) (Ah Ab:Option Addr) (ch cb:Nat) (h1:SlRep 5 2513169434916 RAr w0 (.slice Ah x.h.length ch) x.h) (h2:SlRep 16 651562446089 RLt w0 (.slice Ab x.b.length cb) x.b) (p1:w0.cell? ⟨pb,po+1,none⟩=some (.slice Ah x.h.length ch)) (p2:w0.cell? ⟨pb,po+2,none⟩=some (.slice Ab x.b.length cb)):Walks w0 bl bm mb (.iface 385 (.pointer (some ⟨pb,po,none⟩))) (x.hs++x.bs):=by
 intro W L lv hF hV hL;unfold Ru.hs Ru.bs at hL ⊢;rw [List.length_append,List.length_map] at hL;rw [List.foldl_append];have hh:=h1.len;have hb:=h2.len;have H1:=Hh h1;have H2:=Hh h2;have P1:=Hh p1;have P2:=Hh p2;have HF:=Hh hF;have HV:=Hh hV;have HL:=Hh hL;have y1:=hF.cell p1;generalize x.h=xh at *;generalize x.b=xb at *;clear h1 h2 p1 p2 hF hV hL;have t1:=@ta_yes Tryz.prog 20 385 _ (.pointer (some ⟨pb,po,none⟩)) Tryz.underlying385;unfold cbV;go_enter Tryz.func312,Tryz.ntmps312;go_wp2_with fail;clear t1;go_loopw [21] (fun i wr => ∃ k:Nat,k≤xh.length∧i = .int .i64 k∧Hid (Fut w0 wr)∧Hid (∃ lv',VarSt w0.heap.size wr bl bm mb (((xh.take k).map (·.t.v)).foldl addVar L) lv')) (fun i _ => xh.length - (intOf i).toNat)
 case atStart => exact ⟨0,Nat.zero_le _,rfl,HF,Hh ⟨lv,HV.out⟩⟩
 case round =>
  obtain ⟨k,hk,rfl,hF,hV⟩:=hrel
  by_cases hlt:k<xh.length
  ·have hltI:(k:Int)<xh.length:=by omega
   have e0:(0:Int)≤k∧(k:Int)<xh.length:=by omega
   obtain ⟨b,off,rfl,_,hok,_,y1',_,_,_⟩:=ar_at H1.out hlt;have hnx:Hid ((xh.take (k+1)).map (·.t.v)=(xh.take k).map (·.t.v)++[(xh[k]).t.v]):=Hh (by rw [List.take_succ_eq_append_getElem hlt,List.map_append];rfl);obtain ⟨lv1,hV1⟩:=hV.out;have hln:=foldl_len ((xh.take k).map (·.t.v)) L;rw [List.length_map,List.length_take] at hln;have hL9:=HL.out;have HC:=Hh (cb_any (xh[k]).t.v y1' hok.1 hF.out hV1 (by omega));have z1:=hF.out.cell P1.out;clear hV1 hln hok y1' hV hL9;generalize (xh[k]).t.v=v at *;go_wp2_with fail;refine HC.out.mono ?_;rintro e w3 ⟨⟨u,rfl⟩,lv2,hV2,hF2⟩;have HV2:=Hh (show ∃ lv',VarSt w0.heap.size w3 bl bm mb (((xh.take (k+1)).map (·.t.v)).foldl addVar L) lv' from ⟨lv2,by rw [hnx.out,List.foldl_append];exact hV2⟩);have HF2:=Hh hF2;clear hV2 hF2;go_wp2;go_roundw
   case rel => exact ⟨k+1,by omega,by go_num,HF2,HV2⟩
   case measure => simp [intOf] <;> omega
  ·obtain rfl:k=xh.length:=by omega
   rw [List.take_length] at hV;have hlH:=foldl_len (xh.map (·.t.v)) L;rw [List.length_map] at hlH;have hlH2:((xh.map (·.t.v)).foldl addVar L).length+(xb.flatMap Lt.vs).length≤1000000000:=by have:=HL.out;omega
   replace hlH2:=Hh hlH2;clear hlH HL;obtain ⟨L1,hL1⟩:∃ L1,(xh.map (·.t.v)).foldl addVar L=L1:=⟨_,rfl⟩
   rw [hL1] at hlH2 hV;replace hL1:=Hh hL1;have z2:=hF.out.cell P2.out;have HF1:=Hh hF.out;have HV1:=Hh hV.out;clear hF hV;go_wp2_with fail;go_loopw [39] (fun i wr => ∃ k:Nat,k≤xb.length∧i = .int .i64 k∧Hid (Fut w0 wr)∧Hid (∃ lv',VarSt w0.heap.size wr bl bm mb (((xb.take k).flatMap Lt.vs).foldl addVar L1) lv')) (fun i _ => xb.length - (intOf i).toNat)
   case atStart => exact ⟨0,Nat.zero_le _,rfl,HF1,Hh HV1.out⟩
   case round =>
    obtain ⟨k,hk,rfl,hF,hV⟩:=hrel
    by_cases hlt:k<xb.length
    ·have hltI:(k:Int)<xb.length:=by omega
     have e0:(0:Int)≤k∧(k:Int)<xb.length:=by omega
     obtain ⟨b,off,A',c,Al,l',cl,Ad,d',cd,rfl,hcs,_,_,g3⟩:=lt_at H2.out hlt;have hst:=Hh (bs_take hlt);obtain ⟨lv2,hV2⟩:=hV.out;have hln:=foldl_len ((xb.take k).flatMap Lt.vs) L1;have hL9:=hlH2.out;have hL8:=bs_le hlt;have HI:=Hh (walkL_any xb[k] A' c _ _ g3 hcs wr _ lv2 hF.out hV2 (by omega));have z1:=hF.out.cell P2.out;clear hV2 hln hL9 hL8 hcs g3 hV;generalize (xb[k]).vs=vs at *;unfold cbV at HI;go_wp2_with fail;refine HI.out.mono ?_;rintro e w3 ⟨⟨u,rfl⟩,lv2,hV2,hF2⟩;have HV2:=Hh (show ∃ lv',VarSt w0.heap.size w3 bl bm mb (((xb.take (k+1)).flatMap Lt.vs).foldl addVar L1) lv' from ⟨lv2,by rw [hst.out,List.foldl_append];exact hV2⟩);have HF2:=Hh hF2;clear hV2 hF2;go_wp2;go_roundw
     case rel => exact ⟨k+1,by omega,by go_num,HF2,HV2⟩
     case measure => simp [intOf] <;> omega
    ·obtain rfl:k=xb.length:=by omega
     rw [List.take_length] at hV;go_wp2;go_end0;exact ⟨⟨_,rfl⟩,by obtain ⟨lv',h9⟩:=hV.out;exact ⟨lv',by rw [hL1.out];exact h9,hF.out⟩⟩
theorem var_new (w:World):VarSt w.heap.size (((w.alloc (.cells #[.slice none 0 0] tVl')).alloc (.map #[] 0)).alloc (.cells #[.map (some (w.heap.size+1))] tVm)) w.heap.size (w.heap.size+2) (w.heap.size+1) [] (.slice none 0 0):=by
 have h0:=heap_alloc_new w (.cells #[.slice none 0 0] tVl');have s1:(w.alloc (.cells #[.slice none 0 0] tVl')).heap.size=w.heap.size+1:=by simp
 have s2:((w.alloc (.cells #[.slice none 0 0] tVl')).alloc (.map #[] 0)).heap.size=w.heap.size+2:=by simp
 have h1:=MapE.new (kv:=strV) (w.alloc (.cells #[.slice none 0 0] tVl'));rw [s1] at h1;have h2:=heap_alloc_new ((w.alloc (.cells #[.slice none 0 0] tVl')).alloc (.map #[] 0)) (.cells #[.map (some (w.heap.size+1))] tVm);rw [s2] at h2;refine ⟨((Fut.alloc (w.alloc (.cells #[.slice none 0 0] tVl')) (.map #[] 0)).trans (Fut.alloc _ _)).block h0,OwnL.nil,h2,h1.fut (Fut.alloc _ _),fun s hs => (by cases hs),by omega,by omega,by omega⟩
set_option maxHeartbeats 2000000 in
set_option maxRecDepth 100000 in
theorem vars_of {w:World} (x:Value) (vs:List ByteArray) (hl:vs.length≤1000000000) (h:Walks w w.heap.size (w.heap.size+2) (w.heap.size+1) x vs) :
    Calls Tryz.prog 278 #[x] w fun e w' => ∃ v,e = .returned v∧OwnL 1 w.heap.size 9 RNm w' v (vs.foldl addVar [])∧Fut w w':=by
 have H:=Hh (h _ [] (.slice none 0 0) (((Fut.alloc w (.cells #[.slice none 0 0] tVl')).trans (Fut.alloc _ (.map #[] 0))).trans (Fut.alloc _ (.cells #[.map (some (w.heap.size+1))] tVm))) (var_new w) (by simpa using hl));unfold cbV at H;clear h;go_enter Tryz.func278,Tryz.ntmps278;have hmm:=@run_makeMap Tryz.prog;go_wp2_with fail;refine H.out.mono ?_;rintro e w1 ⟨⟨u,rfl⟩,lv1,hV1,hF1⟩;have y1:=cell_at hV1.lcell 0 _ rfl;have HL:=Hh hV1.list;have HF:=Hh hF1;clear hV1 hF1;go_wp2;go_ret;exact ⟨_,rfl,HL.out,HF.out⟩
def ddVs (l:List ByteArray):List ByteArray:=l.foldl addVar []
def Ex.vars (x:Ex):List ByteArray:=ddVs x.vs
def tmVars (ts:List Tm):List ByteArray:=ddVs (ts.map (·.v))
def Ru.vars (r:Ru):List ByteArray:=ddVs (r.hs++r.bs)
abbrev Nms (B:Nat):World→Value→List ByteArray→Prop:=OwnL 1 B 9 RNm
set_option maxHeartbeats 1000000 in
theorem atomVars_any (p:ByteArray) (A:Option Addr) (c M:Nat) (ts:List Tm) (w:World) (h:SlRep 4 M RTm w (.slice A ts.length c) ts) (hM:M≤9223372036854775807) (hl:ts.length≤1000000000) :
    Calls Tryz.prog 272 #[.agg #[.string p,.slice A ts.length c]] w fun e w' => ∃ v,e = .returned v∧Nms w.heap.size w' v (tmVars ts)∧Fut w w':=by
 have hb:=heap_alloc_new w (.cells #[.string p,.slice A ts.length c] 108);have f0:=Fut.alloc w (.cells #[.string p,.slice A ts.length c] 108);have hs:(w.alloc (.cells #[.string p,.slice A ts.length c] 108)).heap.size=w.heap.size+1:=by simp
 have HV:=Hh (vars_of (w:=w.alloc (.cells #[.string p,.slice A ts.length c] 108)) _ (ts.map (·.v)) (by rw [List.length_map];exact hl) (walkA_any (pb:=w.heap.size) (po:=0) A c ts (h.fut RTm.stays f0) hM (cell_at hb 1 (.slice A ts.length c) rfl)));rw [hs] at HV;clear h hb hs;replace f0:=Hh f0;generalize ts.length=n at *;go_enter Tryz.func272,Tryz.ntmps272;go_wp2_with fail;refine HV.out.mono ?_;rintro e w1 ⟨v,rfl,h1,f1⟩;have H1:=Hh (And.intro (h1.base (Nat.le_succ _)) (f0.out.trans f1));clear h1 f1;go_wp2;go_ret;exact ⟨_,rfl,H1.out⟩
set_option maxHeartbeats 1000000 in
theorem exprVars_any (x:Ex) (A:Option Addr) (c n:Nat) (w:World) (h:RE n w (x.cs (.slice A x.kids.length c)) x) (hl:x.size≤1000000000) :
    Calls Tryz.prog 274 #[.agg (x.cs (.slice A x.kids.length c)).toArray] w fun e w' => ∃ v,e = .returned v∧Nms w.heap.size w' v x.vars∧Fut w w':=by
 have hb:=heap_alloc_new w (.cells (x.cs (.slice A x.kids.length c)).toArray 118);have f0:=Fut.alloc w (.cells (x.cs (.slice A x.kids.length c)).toArray 118);have hs:(w.alloc (.cells (x.cs (.slice A x.kids.length c)).toArray 118)).heap.size=w.heap.size+1:=by simp
 have HV:=Hh (vars_of (w:=w.alloc (.cells (x.cs (.slice A x.kids.length c)).toArray 118)) _ x.vs (by rw [Ex.vs_len];exact hl) (walkE_any n x _ w.heap.size 0 (RE.stays n _ _ _ _ f0 h) (fun j c' hj => by
  rw [Nat.zero_add];exact cell_at hb j c' (by simpa using hj))))
 rw [hs] at HV;clear h hb hs;replace f0:=Hh f0;unfold Ex.cs at *;generalize x.kids.length=n at *;generalize x.op=o at *;generalize x.t=t at *;go_enter Tryz.func274,Tryz.ntmps274;go_wp2_with fail;refine HV.out.mono ?_;rintro e w1 ⟨v,rfl,h1,f1⟩;have H1:=Hh (And.intro (h1.base (Nat.le_succ _)) (f0.out.trans f1));clear h1 f1;go_wp2;go_ret;exact ⟨_,rfl,H1.out⟩
set_option maxHeartbeats 1000000 in
theorem ruleVars_any (x:Ru) (Ah Ab:Option Addr) (ch cb:Nat) (w:World) (h1:SlRep 5 2513169434916 RAr w (.slice Ah x.h.length ch) x.h) (h2:SlRep 16 651562446089 RLt w (.slice Ab x.b.length cb) x.b) (hl:x.hs.length+x.bs.length≤1000000000) :
    Calls Tryz.prog 250 #[.agg #[.string x.p,.slice Ah x.h.length ch,.slice Ab x.b.length cb]] w fun e w' => ∃ v,e = .returned v∧Nms w.heap.size w' v x.vars∧Fut w w':=by
 have hb:=heap_alloc_new w (.cells #[.string x.p,.slice Ah x.h.length ch,.slice Ab x.b.length cb] 82);have f0:=Fut.alloc w (.cells #[.string x.p,.slice Ah x.h.length ch,.slice Ab x.b.length cb] 82);have hs:(w.alloc (.cells #[.string x.p,.slice Ah x.h.length ch,.slice Ab x.b.length cb] 82)).heap.size=w.heap.size+1:=by simp
 have HV:=Hh (vars_of (w:=w.alloc (.cells #[.string x.p,.slice Ah x.h.length ch,.slice Ab x.b.length cb] 82)) _ (x.hs++x.bs) (by rw [List.length_append];exact hl) (walkR_any (pb:=w.heap.size) (po:=0) x Ah Ab ch cb (h1.fut RAr.stays f0) (h2.fut RLt.stays f0) (cell_at hb 1 (.slice Ah x.h.length ch) rfl) (cell_at hb 2 (.slice Ab x.b.length cb) rfl)));rw [hs] at HV;clear h1 h2 hb hs;replace f0:=Hh f0;generalize x.h.length=n at *;generalize x.b.length=m at *;generalize x.p=p at *;go_enter Tryz.func250,Tryz.ntmps250;go_wp2_with fail;refine HV.out.mono ?_;rintro e w1 ⟨v,rfl,h1,f1⟩;have H1:=Hh (And.intro (h1.base (Nat.le_succ _)) (f0.out.trans f1));clear h1 f1;go_wp2;go_ret;exact ⟨_,rfl,H1.out⟩
def Ru.good (r:Ru):Bool:=nameT r.p && decide (r.h.length≤24) && decide (r.b.length≤16) && r.h.all Ar.good && r.b.all Lt.good && decide (r.vars.length≤24)
set_option maxHeartbeats 2000000 in
set_option maxRecDepth 100000 in
theorem checkR_any (x:Ru) (Ah Ab:Option Addr) (ch cb:Nat) (w:World) (hp:x.p.size≤140737488351232) (h1:SlRep 5 2513169434916 RAr w (.slice Ah x.h.length ch) x.h) (h2:SlRep 16 651562446089 RLt w (.slice Ab x.b.length cb) x.b) (hl:x.hs.length+x.bs.length≤1000000000) :
    Calls Tryz.prog 270 #[.agg #[.string x.p,.slice Ah x.h.length ch,.slice Ab x.b.length cb]] w fun e w' => e = .returned (.int .i64 (if x.good=true then 0 else 40))∧Fut w w':=by
 have HN:=Hh (fun W => nameT_any x.p W hp);have HV:=Hh (fun W (hW:Fut w W) => ruleVars_any x Ah Ab ch cb W (h1.fut RAr.stays hW) (h2.fut RLt.stays hW) hl);have hh:=h1.len;have hb:=h2.len;have H1:=Hh h1;have H2:=Hh h2;obtain ⟨b,hgb⟩:∃ b,x.good=b:=⟨_,rfl⟩
 rw [hgb];unfold Ru.good at hgb;clear h1 h2 hl;obtain ⟨nm,hnm⟩:∃ nm,nameT x.p=nm:=⟨_,rfl⟩
 rw [hnm] at HN hgb;clear hnm;generalize x.vars=vars at *;obtain ⟨p,xh,xb⟩:=x;dsimp only at *;have hbx:=heap_alloc_new w (.cells #[.string p,.slice Ah xh.length ch,.slice Ab xb.length cb] 82);have FB:=Hh (Fut.alloc w (.cells #[.string p,.slice Ah xh.length ch,.slice Ab xb.length cb] 82));replace hgb:=Hh hgb;cases nm
 ·obtain rfl:b=false:=by rw [← hgb.out];simp
  go_enter Tryz.func270,Tryz.ntmps270;go_wp2_with fail;refine (HN.out _).mono ?_;rintro e w1 ⟨rfl,f1⟩;go_wp2;go_ret;exact ⟨by first|rfl|simp,FB.out.trans f1⟩
 by_cases hlh:xh.length≤24
 rotate_left
 ·obtain rfl:b=false:=by rw [← hgb.out];simp [hlh]
  have hlI:(xh.length:Int) > 24:=by omega
  go_enter Tryz.func270,Tryz.ntmps270;go_wp2_with fail;refine (HN.out _).mono ?_;rintro e w1 ⟨rfl,f1⟩;have y1:=cell_at (f1.block hbx) 1 (.slice Ah xh.length ch) rfl;go_wp2;go_ret;exact ⟨by first|rfl|simp,FB.out.trans f1⟩
 by_cases hlb:xb.length≤16
 rotate_left
 ·obtain rfl:b=false:=by rw [← hgb.out];simp [hlb]
  have hlI:¬ (xh.length:Int) > 24:=by omega
  have hlJ:(xb.length:Int) > 16:=by omega
  have hlN:¬ 24<xh.length:=by omega
  go_enter Tryz.func270,Tryz.ntmps270;go_wp2_with fail;refine (HN.out _).mono ?_;rintro e w1 ⟨rfl,f1⟩;have y1:=cell_at (f1.block hbx) 1 (.slice Ah xh.length ch) rfl;have y2:=cell_at (f1.block hbx) 2 (.slice Ab xb.length cb) rfl;go_wp2;go_ret;exact ⟨by first|rfl|simp,FB.out.trans f1⟩
 have hlI:¬ (xh.length:Int) > 24:=by omega
 have hlJ:¬ (xb.length:Int) > 16:=by omega
 have hlN:¬ 24<xh.length:=by omega
 have hlM:¬ 16<xb.length:=by omega
 replace hgb:=Hh (show (xh.all Ar.good && xb.all Lt.good && decide (vars.length≤24))=b by rw [← hgb.out];simp [hlh,hlb]);go_enter Tryz.func270,Tryz.ntmps270;go_wp2_with fail;refine (HN.out _).mono ?_;rintro e w1 ⟨rfl,f1⟩;have y1:=cell_at (f1.block hbx) 1 (.slice Ah xh.length ch) rfl;have y2:=cell_at (f1.block hbx) 2 (.slice Ab xb.length cb) rfl;have HB:=Hh (f1.block hbx);have F1:=Hh (FB.out.trans f1);clear f1 hbx;go_wp2_with fail;go_loopw [27] (fun i wr => ∃ k:Nat,k≤xh.length∧i = .int .i64 k∧Hid (Fut w wr)∧Hid (Fut w1 wr)∧Hid (∀ y ∈ xh.take k,y.good=true)) (fun i _ => xh.length - (intOf i).toNat)
 case atStart => exact ⟨0,Nat.zero_le _,rfl,F1,Hh (Fut.refl _),Hh (fun y hy => by simp at hy)⟩
 case round =>
  obtain ⟨k,hk,rfl,hF,hG,hA⟩:=hrel
  by_cases hlt:k<xh.length
  ·have hltI:(k:Int)<xh.length:=by omega
   have e0:(0:Int)≤k∧(k:Int)<xh.length:=by omega
   obtain ⟨b',off,rfl,_,hok,u0,u1,u2,u3,u4⟩:=ar_at (H1.out.fut RAr.stays hF.out) hlt;have hnx:=Hh (List.take_succ_eq_append_getElem hlt);have hmem:=Hh (List.getElem_mem hlt);generalize xh[k]=z at *;have HC:=Hh (fun W => argT_any z W hok);obtain ⟨d,hd⟩:∃ d,z.good=d:=⟨_,rfl⟩
   simp only [hd] at HC;replace hd:=Hh hd;have hb0:=heap_alloc_new wr (.cells #[.int .i8 z.g,.string z.t.v,.int .i8 z.t.x.k,.int .i64 z.t.x.n,.string z.t.x.s] 190);have f0:=Hh (Fut.alloc wr (.cells #[.int .i8 z.g,.string z.t.v,.int .i8 z.t.x.k,.int .i64 z.t.x.n,.string z.t.x.s] 190));cases d
   ·obtain rfl:b=false:=by
      rw [← hgb.out];have h9:xh.all Ar.good=false:=List.all_eq_false.2 ⟨z,hmem.out,by rw [hd.out];decide⟩;rw [h9];rfl
    go_wp2_with fail;refine (HC.out _).mono ?_;rintro e w3 ⟨rfl,f3⟩;go_wp2;go_ret;exact ⟨by first|rfl|simp,(hF.out.trans f0.out).trans f3⟩
   ·go_wp2_with fail;refine (HC.out _).mono ?_;rintro e w3 ⟨rfl,f3⟩;have HF3:=Hh ((hF.out.trans f0.out).trans f3);have HG3:=Hh ((hG.out.trans f0.out).trans f3)
    have HA3:Hid (∀ y ∈ xh.take (k+1),y.good=true):=Hh fun y hy => by
     rw [hnx.out,List.mem_append] at hy;rcases hy with hy|hy
     ·exact hA.out y hy
     ·rw [List.mem_singleton] at hy;subst hy;exact hd.out
    clear f3;go_wp2;go_roundw
    case rel => exact ⟨k+1,by omega,by go_num,HF3,HG3,HA3⟩
    case measure => simp [intOf] <;> omega
  ·obtain rfl:k=xh.length:=by omega
   obtain ⟨wo,hwo⟩:∃ x,x=wr:=⟨_,rfl⟩
   subst hwo;rw [List.take_length] at hA;have hall:xh.all Ar.good=true:=List.all_eq_true.2 hA.out;replace hgb:=Hh (show (xb.all Lt.good && decide (vars.length≤24))=b by rw [← hgb.out,hall];rfl);have z1:=cell_at (hG.out.block HB.out) 2 (.slice Ab xb.length cb) rfl;have HBw:=Hh (hG.out.block HB.out);have HFw:=Hh hF.out;clear hG hA hall F1 HB hF;go_wp2_with fail;go_loopw [38] (fun i W => ∃ k:Nat,k≤xb.length∧i = .int .i64 k∧Hid (Fut w W)∧Hid (Fut wo W)∧Hid (∀ y ∈ xb.take k,y.good=true)) (fun i _ => xb.length - (intOf i).toNat)
   case atStart => exact ⟨0,Nat.zero_le _,rfl,HFw,Hh (Fut.refl _),Hh (fun y hy => by simp at hy)⟩
   case round =>
    obtain ⟨k,hk,rfl,hF,hG,hA⟩:=hrel
    by_cases hlt:k<xb.length
    ·have hltI:(k:Int)<xb.length:=by omega
     have e0:(0:Int)≤k∧(k:Int)<xb.length:=by omega
     obtain ⟨b',off,A',c,Al,l',cl,Ad,d',cd,rfl,hcs,_,_,g3⟩:=lt_at (H2.out.fut RLt.stays hF.out) hlt;have hnx:=Hh (List.take_succ_eq_append_getElem hlt);have hmem:=Hh (List.getElem_mem hlt);generalize xb[k]=z at *;have u0:wr.cell? ⟨b',off+k * 16,none⟩=some (.int .i8 z.k):=hcs 0 _ rfl;have u1:=hcs 1 _ rfl;have u2:=hcs 2 _ rfl;have u3:=hcs 3 _ rfl;have u4:=hcs 4 _ rfl;have u5:=hcs 5 _ rfl;have u6:=hcs 6 _ rfl;have u7:=hcs 7 _ rfl;have u8:=hcs 8 _ rfl;have u9:=hcs 9 _ rfl;have u10:=hcs 10 _ rfl;have u11:=hcs 11 _ rfl;have u12:=hcs 12 _ rfl;have u13:=hcs 13 _ rfl;have u14:=hcs 14 _ rfl;have u15:=hcs 15 _ rfl;have HC:=Hh (fun W (hW:Fut wr W) => checkL_any z A' c (.slice Al l' cl) (.slice Ad d' cd) W (g3.fut hW));obtain ⟨d,hd⟩:∃ d,z.good=d:=⟨_,rfl⟩
     simp only [hd] at HC;replace hd:=Hh hd;clear hcs g3;obtain ⟨zk,zp,za,zr,zl,zd⟩:=z;dsimp only [Lt.cs] at u0 u1 u2 u3 u4 u5 u6 u7 u8 u9 u10 u11 u12 u13 u14 u15 HC;generalize zl.t=lt at *;generalize zl.op=lo at *;generalize zd.t=dt at *;generalize zd.op=do' at *;generalize za.length=na at *;have f0:=Hh (Fut.alloc wr (.cells #[.int .i8 zk,.string zp,.slice A' na c,.int .i8 zr,.int .i8 lo,.string lt.v,.int .i8 lt.x.k,.int .i64 lt.x.n,.string lt.x.s,.slice Al l' cl,.int .i8 do',.string dt.v,.int .i8 dt.x.k,.int .i64 dt.x.n,.string dt.x.s,.slice Ad d' cd] 120));cases d
     ·obtain rfl:b=false:=by
        rw [← hgb.out];have h9:xb.all Lt.good=false:=List.all_eq_false.2 ⟨_,hmem.out,by rw [hd.out];decide⟩;rw [h9];rfl
      go_wp2_with fail;refine (HC.out _ f0.out).mono ?_;rintro e w3 ⟨rfl,f3⟩;go_wp2;go_ret;exact ⟨by first|rfl|simp,(hF.out.trans f0.out).trans f3⟩
     ·go_wp2_with fail;refine (HC.out _ f0.out).mono ?_;rintro e w3 ⟨rfl,f3⟩;have HF3:=Hh ((hF.out.trans f0.out).trans f3);have HG3:=Hh ((hG.out.trans f0.out).trans f3)
      have HA3:Hid (∀ y ∈ xb.take (k+1),y.good=true):=Hh fun y hy => by
       rw [hnx.out,List.mem_append] at hy;rcases hy with hy|hy
       ·exact hA.out y hy
       ·rw [List.mem_singleton] at hy;subst hy;exact hd.out
      clear f3;go_wp2;go_roundw
      case rel => exact ⟨k+1,by omega,by go_num,HF3,HG3,HA3⟩
      case measure => simp [intOf] <;> omega
    ·obtain rfl:k=xb.length:=by omega
     rw [List.take_length] at hA;have hall:xb.all Lt.good=true:=List.all_eq_true.2 hA.out;replace hgb:=Hh (show decide (vars.length≤24)=b by rw [← hgb.out,hall];rfl);have hb1:=hG.out.block HBw.out;have z0:=cell_at hb1 0 (.string p) rfl;have z1:=cell_at hb1 1 (.slice Ah xh.length ch) rfl;have z2:=cell_at hb1 2 (.slice Ab xb.length cb) rfl;clear hb1 hA hall;go_wp2_with fail;refine (HV.out _ hF.out).mono ?_;rintro e w3 ⟨v,rfl,hv,f3⟩;obtain ⟨A3,c3,rfl,_,_⟩:=hv.rep.form;have HF3:=Hh (hF.out.trans f3);clear hv f3;generalize vars.length=nv at *
     by_cases hnv:nv≤24
     ·obtain rfl:b=true:=by rw [← hgb.out];simp [hnv]
      have hnI:(nv:Int)≤24:=by omega
      go_wp2_with fail;refine (codeT_any true _).mono ?_;rintro e w4 ⟨rfl,rfl⟩;go_wp2;go_ret;exact ⟨by first|rfl|simp,HF3.out⟩
     ·obtain rfl:b=false:=by rw [← hgb.out];simp [hnv]
      have hnI:¬ (nv:Int)≤24:=by omega
      have hC:∀ W,Calls Tryz.prog 311 #[.bool (decide ((nv:Int)≤24))] W fun e w' => e = .returned (.int .i64 40)∧w'=W:=fun W => by rw [decide_eq_false hnI];exact codeT_any false W
      go_wp2_with fail;refine (hC _).mono ?_;rintro e w4 ⟨rfl,rfl⟩;go_wp2;go_ret;exact ⟨by first|rfl|simp,HF3.out⟩
def addF (L:List ByteArray) (v:ByteArray):List ByteArray:=if v ∈ L then L else L++[v]
theorem addF_len (L:List ByteArray) (v:ByteArray):(addF L v).length≤L.length+1:=by
 unfold addF
 split
 ·omega
 ·simp
theorem foldF_len:∀ (vs L:List ByteArray),(vs.foldl addF L).length≤L.length+vs.length
 | [],L => by simp
 | v :: r,L => by
  rw [List.foldl_cons,List.length_cons];have h1:=foldF_len r (addF L v);have h2:=addF_len L v;omega
def allIn (L vs:List ByteArray):Bool:=vs.all fun v => decide (v ∈ L)
structure Eqn where
 l:ByteArray
 r:ByteArray
 ls:List ByteArray
 rs:List ByteArray
def Eqn.takes (q:Eqn) (L:List ByteArray):Bool×List ByteArray :=
 if q.l.toList≠[]∧q.l ∉ L∧allIn L q.rs=true then (true,L++[q.l])
 else if q.r.toList≠[]∧q.r ∉ L∧allIn L q.ls=true then (true,L++[q.r])
 else (false,L)
def stepE (s:List Eqn×List ByteArray) (q:Eqn):List Eqn×List ByteArray :=
 if (q.takes s.2).1=true then (s.1,(q.takes s.2).2) else (s.1++[q],(q.takes s.2).2)
def roundE (qs:List Eqn) (L:List ByteArray):List Eqn×List ByteArray:=qs.foldl stepE ([],L)
theorem stepE_len (s:List Eqn×List ByteArray) (q:Eqn):(stepE s q).1.length≤s.1.length+1:=by
 unfold stepE
 split
 ·simp
 ·simp
theorem foldE_len:∀ (qs:List Eqn) (s:List Eqn×List ByteArray),(qs.foldl stepE s).1.length≤s.1.length+qs.length
 | [],s => by simp
 | q :: r,s => by
  rw [List.foldl_cons,List.length_cons];have h1:=foldE_len r (stepE s q);have h2:=stepE_len s q;omega
theorem roundE_len (qs:List Eqn) (L:List ByteArray):(roundE qs L).1.length≤qs.length:=by
 have:=foldE_len qs ([],L);unfold roundE;simpa using this
def loopE:Nat→List Eqn→List ByteArray→List ByteArray
 | 0,_,L => L
 | n+1,qs,L => if (roundE qs L).1.length<qs.length then loopE n (roundE qs L).1 (roundE qs L).2 else (roundE qs L).2
def Ex.lone (e:Ex):ByteArray:=if e.op=0∧e.kids.length=0∧e.t.v.toList≠[95] then e.t.v else ⟨#[]⟩
def Lt.eqn (x:Lt):Eqn:=⟨x.l.lone,x.d.lone,x.l.vars,x.d.vars⟩
def stepB (s:List Eqn×List ByteArray) (x:Lt):List Eqn×List ByteArray :=
 if x.k=1 then (s.1,(tmVars x.a).foldl addF s.2) else if x.k=3∧x.r=1 then (s.1++[x.eqn],s.2) else s
def beginB (b:List Lt):List Eqn×List ByteArray:=b.foldl stepB ([],[])
def limitsB (b:List Lt):List ByteArray:=loopE ((beginB b).1.length+1) (beginB b).1 (beginB b).2
def Ru.safe (r:Ru):Bool:=allIn (limitsB r.b) r.vars
def Ru.errno (r:Ru):Int:=if r.good=true then (if r.safe=true then 0 else 73) else 40
def Lt.works (x:Lt):Bool:=decide (x.k=3) && (!decide (x.l.op=0) || !decide (x.d.op=0))
def Ru.posB (r:Ru):List Lt:=r.b.filter fun x => decide (x.k=1)
def Ru.makes (r:Ru):Bool:=decide (r.errno=0) && r.b.any Lt.works && !allIn (limitsB r.posB) (ddVs r.hs)
end Go.Proofs.YtobabnpllokkaaaGreatDoor
