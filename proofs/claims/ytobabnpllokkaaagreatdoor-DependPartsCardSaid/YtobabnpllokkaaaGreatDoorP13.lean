/- Parts. -/
import Derived.Test.YtobabnpllokkaaaGreatDoorP12
import Derived.Test.YtobabnpllokkaaaGreatDoorP10
import Derived.Test.YtobabnpllokkaaaGreatDoorP00
set_option linter.unusedSimpArgs false
set_option linter.unusedVariables false
namespace Go.Proofs.YtobabnpllokkaaaGreatDoor
open Go.RowKit Go.Maps Go.WideShapes Go.Shelf
abbrev rhoS:=Tryz.sorted98_ren
set_option maxRecDepth 100000 in
set_option maxHeartbeats 2000000 in
theorem appendV_in {M:Nat} (Bv:Nat) (A:Option Addr) (c:Nat) (xs:List ByteArray) (w:World) (hsl:SlRep 1 M RNm w (.slice A xs.length c) xs) (hM:M≤9223372036854775807) (hBs:w.cell? ⟨Bv,0,none⟩=some (.slice A xs.length c)) (hl:xs.length≤1000000000) :
    CallsIn Fence.wide 3 Tryz.prog 253 #[.slice none 0 0,.func (.func 211) #[] #[.pointer (some ⟨Bv,0,none⟩)]] w fun e w' => ∃ v,e = .returned v∧w'.ownsRow w.heap.size 9 1 v xs.length ((xs.map (·.data.toList)).map encStr)∧(v = .slice none 0 0↔xs.map (·.data.toList)=[])∧Fut w w':=by
 have L:=Tryz.sorted98;have eg:∀ args W,(callFunc 211 args).run Tryz.prog W = .ok (.enter 211 args) W:=fun args W => by kernel_rfl
 have hro:Fence.wide.round=none:=rfl;refine callsIn_of_wp_marks Tryz.func253 rfl trivial ?_ hro;simp only [Tryz.ntmps253,List.size_toArray,List.length_cons,List.length_nil,Nat.reduceAdd,Nat.reduceSub,Array.replicate_succ,Array.replicate_zero,List.push_toArray,List.append_toArray,List.nil_append,List.cons_append]
 gi_wp2
 refine wpIn_rangeFunc ?_;intro fn hfn;rw [hro]
 -- the box of what has come;the deferred list;the loop's record
 obtain ⟨Wb,hWb⟩:∃ W,w.alloc (.cells #[.slice none 0 0] 76)=W:=⟨_,rfl⟩
 have zb:Wb.heap.size=w.heap.size+1:=by rw [← hWb];simp
 have bb:Wb.heap[w.heap.size]?=some (.cells #[.slice none 0 0] 76 (0,0)):=by rw [← hWb];exact heap_alloc_new w _
 have fb:Fut w Wb:=by rw [← hWb];exact Fut.alloc _ _
 rw [hWb];obtain ⟨sv,hsv⟩:∃ v,Value.func (.func 211) #[] #[.pointer (some ⟨Bv,0,none⟩)]=v:=⟨_,rfl⟩
 obtain ⟨rec,hrec⟩:∃ r,AnyZ.apRec rhoS fn sv w.heap.size Wb.heap.size .ready none=r:=⟨_,rfl⟩
 obtain ⟨Wl,hWl⟩:∃ W,(Wb.alloc (.deferred (some []))).alloc (.loop rec)=W:=⟨_,rfl⟩
 have f1:=Fut.alloc Wb (.deferred (some []));have f2:=Fut.alloc (Wb.alloc (.deferred (some []))) (.loop rec);have zd:(Wb.alloc (.deferred (some []))).heap.size=Wb.heap.size+1:=by simp
 have dl:Wl.heap[Wb.heap.size]?=some (.deferred (some [])):=by rw [← hWl];exact f2.block (heap_alloc_new Wb _)
 have ll:Wl.heap[Wb.heap.size+1]?=some (.loop rec):=by
  rw [← hWl];have:=heap_alloc_new (Wb.alloc (.deferred (some []))) (.loop rec)
  rwa [zd] at this
 have fl:Fut Wb Wl:=by rw [← hWl];exact f1.trans f2
 have H0:AnyZ.ApAt rhoS w fn sv w.heap.size (Wb.heap.size+1) Wb.heap.size [] Wl :=
  ⟨⟨_,fl.block bb,⟨rfl,.inl ⟨rfl,rfl⟩⟩,by simp⟩,by rw [ll,← hrec],dl,fb.trans fl⟩
 refine ⟨Wb.heap.size+1,[{ target:=.collected Wb.heap.size,args:=#[] }],Wl,{ target:=.fn (.func 211) #[.pointer (some ⟨Bv,0,none⟩)],args:=#[.func (.yield (Wb.heap.size+1)) #[] #[]] },Wl,211,
  #[.func (.yield (Wb.heap.size+1)) #[] #[]]++#[.pointer (some ⟨Bv,0,none⟩)],Wl,?_,?_,?_,?_,fun _ => by decide,?_⟩
 ·rw [← hWl,← hrec,← hsv];exact run_enterLoop_outer _ _ _ _ _
 ·simp [resolve,go_sem]
 ·intro f' hf';simp [Target.leads] at hf';subst hf';trivial
 ·simp [invoke,go_sem,eg]
 ·refine (values1_in (m:=1) (Wb.heap.size+1) Bv A c xs w hsl hM hBs (AnyZ.ApAt rhoS w fn sv w.heap.size (Wb.heap.size+1) Wb.heap.size) (fun s W1 h => h.below)
    (fun pre x W1 hJ hlt => ?_) Wl H0).mono ?_
  ·obtain ⟨a1,a2,a3,a4,a5,a6⟩:=AnyZ.apYield { L with } Fence.wide 1 w fn hfn sv w.heap.size (Wb.heap.size+1) Wb.heap.size (by omega) (by omega) (by omega) (Nat.le_refl _) (by omega) 1000000000 (by unfold maxLen;omega) (by omega) pre x W1 hJ (by omega);exact ⟨a1,a2,a3,a4,a5,a6.mono fun e W' h => ⟨h.1,h.2.1⟩⟩
  ·rintro e W2 ⟨⟨v0,rfl⟩,h2⟩;obtain ⟨v,hv,hrow,hnil⟩:=h2.box;have hne:76≠9:=by decide
   have hend:=run_endLoop (P:=Tryz.prog) h2.L (by simp [AnyZ.apRec]);obtain ⟨W3,hW3⟩:∃ W,W2.putObj (Wb.heap.size+1) (.loop { AnyZ.apRec rhoS fn sv w.heap.size Wb.heap.size .ready none with state:=.exhausted })=W:=⟨_,rfl⟩
   rw [hW3] at hend;have g3:W2.grownBy W3 (some (Wb.heap.size+1)):=by rw [← hW3];exact grownBy_putObj_a _ _ _
   have hv3:W3.heap[w.heap.size]?=some (.cells #[v] 76 (0,0)):=by rw [← hW3];exact (World.putObj_heap_other (by omega)).trans hv
   have hK3:W3.heap[Wb.heap.size]?=some (.deferred (some [])):=by rw [← hW3];exact (World.putObj_heap_other (by omega)).trans h2.K
   have hrow3:=hrow.kept g3 (ownsRow_ne_a hrow h2.L (fun cur e => by cases e));have hb3:Fut w W3:=Below.grown h2.below g3 h2.below.size (fun k e => by cases e;omega);obtain ⟨hc3,hf3⟩:=cell_of_box_a hv3;clear hW3;rw [List.length_map] at hrow3;refine ⟨none,W3,hend,?_⟩
   gi_wp2
   rw [← zb];refine ⟨by simp,.inl ⟨_,_,rfl,run_takeDeferred hK3,?_⟩⟩;have hg4:=grownBy_putObj_a W3 Wb.heap.size (.deferred none);exact ⟨_,results_tmp rfl _ _ _,v,rfl,hrow3.kept (grownBy_putObj_a _ _ _) (ownsRow_ne_a hrow3 hK3 (fun cur e => by cases e)),hnil,Below.grown hb3 (grownBy_putObj_a _ _ _) hb3.size (fun k e => by cases e;omega)⟩
end Go.Proofs.YtobabnpllokkaaaGreatDoor
namespace Go.Proofs.YtobabnpllokkaaaGreatDoor
open Go.RowKit Go.Maps Go.WideShapes Go.Shelf Go.Sort
section
variable {M:Nat} (Bv:Nat) (A:Option Addr) (c:Nat) (xs:List ByteArray) (w:World) (hsl:SlRep 1 M RNm w (.slice A xs.length c) xs) (hM:M≤9223372036854775807) (hBs:w.cell? ⟨Bv,0,none⟩=some (.slice A xs.length c)) (hl:xs.length≤1000000000)
include hsl hM hBs hl
set_option maxRecDepth 100000 in
set_option maxHeartbeats 2000000 in
theorem collectV_in :
    CallsIn Fence.wide 4 Tryz.prog 199 #[.func (.func 211) #[] #[.pointer (some ⟨Bv,0,none⟩)]] w fun e w' => ∃ v,e = .returned v∧w'.ownsRow w.heap.size 9 1 v xs.length ((xs.map (·.data.toList)).map encStr)∧(v = .slice none 0 0↔xs.map (·.data.toList)=[])∧Fut w w':=by
 refine callsIn_of_wp Tryz.func199 rfl trivial ?_ rfl;simp only [Tryz.ntmps199,List.size_toArray,List.length_cons,List.length_nil,Nat.reduceAdd,Nat.reduceSub,Array.replicate_succ,Array.replicate_zero,List.push_toArray,List.append_toArray,List.nil_append,List.cons_append]
 gi_wp2_with fail
 refine ⟨trivial,((appendV_in Bv A c xs w hsl hM hBs hl)).mono ?_⟩;rintro e w' ⟨v,rfl,hrow,hnil,hb⟩
 gi_wp2
 go_ret;exact ⟨v,rfl,hrow,hnil,hb⟩
set_option maxRecDepth 100000 in
set_option maxHeartbeats 2000000 in
theorem sortedV_in :
    CallsIn Fence.wide 5 Tryz.prog 98 #[.func (.func 211) #[] #[.pointer (some ⟨Bv,0,none⟩)]] w fun e w' => ∃ v,e = .returned v∧w'.ownsRow w.heap.size 9 1 v xs.length (((xs.map (·.data.toList)).mergeSort (fun x y => decide (x≤y))).map encStr)∧Fut w w':=by
 obtain ⟨ss,hss⟩:∃ ss,xs.map (·.data.toList)=ss:=⟨_,rfl⟩
 have hsl':ss.length=xs.length:=by rw [← hss,List.length_map]
 have HC:=collectV_in Bv A c xs w hsl hM hBs hl;rw [hss,← hsl'] at HC ⊢;have hlss:ss.length≤1000000000:=by omega
 clear hsl' hss;refine callsIn_of_wp Tryz.func98 rfl trivial ?_ rfl;simp only [Tryz.ntmps98,List.size_toArray,List.length_cons,List.length_nil,Nat.reduceAdd,Nat.reduceSub,Array.replicate_succ,Array.replicate_zero,List.push_toArray,List.append_toArray,List.nil_append,List.cons_append];have hsort:=Tryz.sorts98 4;have e56:∀ args W,(callFunc 210 args).run Tryz.prog W = .ok (.enter 210 args) W:=fun args W => by kernel_rfl
 gi_wp2_with fail
 refine ⟨trivial,(HC).mono ?_⟩;rintro e W ⟨v,rfl,hrow,hnil,hb⟩;rcases hrow.2 with ⟨rfl,hz⟩|⟨gb,cap,cur,rfl,hbase,hgb,r1,r2,r3,r4⟩
 ·have hse:ss=[]:=List.eq_nil_of_length_eq_zero (by omega);subst hse
  gi_wp2_with fail
  refine ⟨trivial,((hsort.2 none 0 W)).mono ?_⟩;rintro e w' ⟨rfl,rfl⟩
  gi_wp2
  go_ret;exact ⟨.slice none 0 0,rfl,by simpa using hrow,hb⟩
 ·have hH:Holds encStr W gb 0 ss.toArray:=holds_of_block hgb (by simpa using r4);have hgl:gb<W.heap.size:=(Array.getElem?_eq_some_iff.1 hgb).1;have hsz:ss.length<4611686018427387904:=by omega
  have cS:=hsort.1 gb 0 cap ss W hH hgl hsz
  gi_wp2_with fail
  refine ⟨trivial,(cS).mono ?_⟩;rintro e w' ⟨rfl,nn,os,rfl⟩
  gi_wp2
  go_ret;exact ⟨_,rfl,ownsRow_sorted (by simp) hbase hgb r1 r2 r3,Below.grown hb (grownBy_sorted _) hb.size (fun j hj => by cases hj;exact hbase)⟩
end
theorem sortV_any {M:Nat} (Bv:Nat) (A:Option Addr) (c:Nat) (xs:List ByteArray) (w:World) (hsl:SlRep 1 M RNm w (.slice A xs.length c) xs) (hM:M≤9223372036854775807) (hBs:w.cell? ⟨Bv,0,none⟩=some (.slice A xs.length c)) (hl:xs.length≤1000000000) (hn:xs.Nodup) :
    Calls Tryz.prog 98 #[.func (.func 211) #[] #[.pointer (some ⟨Bv,0,none⟩)]] w fun e w' => ∃ v,e = .returned v∧Nms w.heap.size w' v (sortU cmpS xs)∧Fut w w':=by
 refine (callsIn_wide.1 (sortedV_in Bv A c xs w hsl hM hBs hl)).mono ?_;rintro e w' ⟨v,rfl,hrow,hf⟩;have hm:=merge_names (List.Perm.refl (xs.map (·.data.toList))) hn;have ho:=names_of_row (by rw [List.length_mergeSort,List.length_map]) hrow;rw [hm] at ho;exact ⟨v,rfl,ho,hf⟩
set_option maxHeartbeats 1000000 in
theorem values_any (A:Option Addr) (n c:Nat) (w:World):Calls Tryz.prog 99 #[.slice A n c] w fun e w' => e = .returned (.func (.func 211) #[] #[.pointer (some ⟨w.heap.size,0,none⟩)])∧w'=w.alloc (.cells #[.slice A n c] 76):=by
 go_enter Tryz.func99,Tryz.ntmps99;go_wp2;go_ret;exact ⟨rfl,rfl⟩
def idxP (s:ByteArray):List ByteArray→Option Nat
 | [] => none
 | x :: r => if x=s then some 0 else (idxP s r).map (·+1)
theorem idxP_some {s:ByteArray}:∀ {l:List ByteArray} {k:Nat},idxP s l=some k→k<l.length∧l[k]?=some s∧s ∉ l.take k
 | x :: r,k,h => by
  unfold idxP at h
  split at h
  ·rename_i e;injection h with h
   subst h;exact ⟨by simp,by simp [e],by simp⟩
  ·rename_i e;cases hq:idxP s r with
   | none => rw [hq] at h;cases h
   | some j =>
    rw [hq] at h;injection h with h
    subst h;obtain ⟨h1,h2,h3⟩:=idxP_some hq;refine ⟨by simpa using h1,by simpa using h2,?_⟩;rw [List.take_succ_cons,List.mem_cons];rintro (h4|h4)
    ·exact e h4.symm
    ·exact h3 h4
set_option maxHeartbeats 2000000 in
theorem index_any {M:Nat} (A:Option Addr) (c:Nat) (xs:List ByteArray) (s:ByteArray) (k0:Nat) (w:World) (h:SlRep 1 M RNm w (.slice A xs.length c) xs) (hM:M≤9223372036854775807) (hi:idxP s xs=some k0) :
    Calls Tryz.prog 97 #[.slice A xs.length c,.string s] w fun e w' => e = .returned (.int .i64 (k0:Nat))∧w'=w:=by
 have H:=Hh h;obtain ⟨_,_,hv,hl1,hl2⟩:=h.form;have hxl:xs.length≤9223372036854775807:=by omega
 obtain ⟨hk0,hat,hno⟩:=idxP_some hi;have HAT:=Hh hat;have HNO:=Hh hno;clear h hv hl1 hl2 hat hno hi;go_enter Tryz.func97,Tryz.ntmps97;go_wp2_with fail;go_loopw [8] (fun i wr => ∃ k:Nat,k≤k0∧i = .int .i64 k∧Hid (wr=w)) (fun i _ => xs.length - (intOf i).toNat)
 case atStart => exact ⟨0,Nat.zero_le _,rfl,Hh rfl⟩
 case round =>
  obtain ⟨k,hk,rfl,hw⟩:=hrel;have hlt:k<xs.length:=by omega
  have hltI:(k:Int)<xs.length:=by omega
  have e0:(0:Int)≤k∧(k:Int)<xs.length:=by omega
  obtain ⟨b,off,rfl,y0⟩:=nm_at H.out hlt;rw [← hw.out] at y0
  by_cases hkk:k=k0
  ·subst hkk
   have hx:xs[k]=s:=by
    have:=HAT.out;rw [List.getElem?_eq_getElem hlt] at this;exact Option.some.inj this
   rw [hx] at y0;go_wp2;go_ret;exact ⟨rfl,hw.out⟩
  ·have hne:xs[k]≠s:=fun e => HNO.out (by
     rw [← e];refine List.mem_take_iff_getElem.2 ⟨k,by omega,rfl⟩)
   have hne2:s≠xs[k]:=Ne.symm hne;generalize xs[k]=x at *;have d1:decide (s=x)=false:=decide_eq_false hne2
   have d3:(s.toList == x.toList)=false:=by
    rw [beq_eq_false_iff_ne];intro h;exact hne2 (ByteArray.ext (Array.toList_inj.1 (by simpa [ByteArray.toList_eq] using h)))
   go_wp2;go_roundw
   case rel => exact ⟨k+1,by omega,by go_num,hw⟩
   case measure => simp [intOf] <;> omega
end Go.Proofs.YtobabnpllokkaaaGreatDoor
namespace Go.Proofs.YtobabnpllokkaaaGreatDoor
open Go.RowKit Go.WideMaps Go.Maps
theorem names_inj {G:Gr} (hn:G.names.Nodup) {i j:Nat} {s:ByteArray} {S T:List ByteArray} (h1:G[i]?=some (s,S)) (h2:G[j]?=some (s,T)):i=j:=by
 have e1:G.names[i]?=some s:=by unfold Gr.names;rw [List.getElem?_map,h1];rfl
 have e2:G.names[j]?=some s:=by unfold Gr.names;rw [List.getElem?_map,h2];rfl
 exact List.getElem?_inj (List.getElem?_eq_some_iff.1 e1).1 hn |>.1 (e1.trans e2.symm)
theorem pushG_set {G:Gr} (hn:G.names.Nodup) {i:Nat} {s t:ByteArray} {S:List ByteArray} (hi:G[i]?=some (s,S)):pushG G s t=G.set i (s,S++[t]):=by
 refine List.ext_getElem? fun j => ?_;unfold pushG;rw [List.getElem?_map,List.getElem?_set]
 by_cases hj:i=j
 ·subst hj;have hlt:=(List.getElem?_eq_some_iff.1 hi).1;rw [if_pos rfl,if_pos hlt,hi];simp
 ·rw [if_neg hj];cases hx:G[j]? with
  | none => rfl
  | some x =>
   have hne:x.1≠s:=fun e => by
    obtain ⟨a,T⟩:=x;simp only at e;subst e;exact hj (names_inj hn hi hx)
   simp [hne]
theorem pushG_names (G:Gr) (s t:ByteArray):(pushG G s t).names=G.names:=by
 unfold pushG Gr.names;rw [List.map_map];refine List.map_congr_left fun x _ => ?_;simp only [Function.comp]
 split <;> rfl
theorem addG_in {G:Gr} {s:ByteArray}:s ∈ (addG G s).names:=by
 unfold addG
 split
 ·assumption
 ·unfold Gr.names;rw [List.map_append];exact List.mem_append_right _ (by simp)
theorem addG_mono {G:Gr} {s x:ByteArray} (h:x ∈ G.names):x ∈ (addG G s).names:=by
 unfold addG
 split
 ·exact h
 ·unfold Gr.names at h ⊢;rw [List.map_append];exact List.mem_append_left _ h
section
variable {B mb:Nat} {W:World} {G:Gr} {s t:ByteArray}
theorem GrI.push (h:GrI B W mb G) (hs:s.size≤140737488351232) (ht:t.size≤140737488351232) (hin:s ∈ G.names):∃ v,Nms B W v (sucs G s)∧(∀ W',Only (fun k => v.ownBlock=some k) W W'→(Instr.lookup tG (.map (some mb)) (.string s) false).run Tryz.prog W' = .ok v W') ∧
    ∀ w' v',Only (fun k => v.ownBlock=some k) W w'→Nms B w' v' (sucs G s++[t])→(∀ k,v'.ownBlock=some k→v.ownBlock=some k∨W.heap.size≤k)→∃ w3,(Instr.mapUpdate tG (.map (some mb)) (.string s) v').run Tryz.prog w' = .ok () w3∧GrI B w3 mb (pushG G s t)∧Only (fun k => k=mb∨v.ownBlock=some k) W w3:=by
 have hz:=h.sizes;have hn:=h.nodup;obtain ⟨vs,h1,h2,h3,h4,h5,h6⟩:=h;obtain ⟨i,S,hi⟩:=names_at hin;have hlt:=(List.getElem?_eq_some_iff.1 hi).1;obtain ⟨v,hv⟩:∃ v,vs[i]?=some v:=⟨_,List.getElem?_eq_getElem (by omega)⟩
 have hg:=getE_at h2.nodup (zip_at hi hv);have hS:=sucs_at hn hi;rw [hS];have hN:=h3 i v _ hv hi
 have hmv:∀ k,v.ownBlock=some k→k≠mb:=fun k hk e => by
  obtain ⟨arr,hty⟩:=hN.typed k hk;exact map_ne h2 hty e.symm
 refine ⟨v,hN,fun W' hW => ?_,fun w' v' O1 o new => ?_⟩
 ·have:=((h2.kept (hW.block mb h2.lt fun e => hmv mb e rfl)).look (t:=tG) keyStr (zip_ok hz) Tryz.underlying95 zeroSl (x:=s) (Nat.le_trans hs (by unfold maxLen;omega))).1;rw [show getE (G.names.zip vs) s=some v from hg] at this;exact this
 ·have m3:MapE strV w' mb (G.names.zip vs):=h2.kept (O1.block mb h2.lt fun e => hmv mb e rfl);obtain ⟨w3,hr,h7,h8⟩:=m3.put (t:=tG) keyStr (zip_ok hz) Tryz.underlying95 (x:=s) (Nat.le_trans hs (by unfold maxLen;omega)) (zip_at hi hv) v';have O2:Only (fun k => k=mb) w' w3:=Only.grown h8 fun k hk => (Option.some.inj hk).symm
  have old:∀ (j:Nat) u x,j≠i→vs[j]?=some u→G[j]?=some x→Nms B w3 u x.2:=fun j u x hj hu hx => by
   have g1:=h3 j u x hu hx;have g2:Nms B w' u x.2:=g1.only (fun _ _ h => h) O1 fun k hk e => hj (h4 j i u v k hu hv hk e)
   exact g2.only (fun _ _ h => h) O2 fun k hk e => by
    obtain ⟨arr,hty⟩:=g1.typed k hk;exact map_ne h2 hty e.symm
  have hset:(pushG G s t)=G.set i (s,S++[t]):=pushG_set hn hi
  have hv':Nms B w3 v' (S++[t]):=o.only (fun _ _ h => h) O2 fun k hk e => by
   obtain ⟨arr,hty⟩:=o.typed k hk;exact map_ne m3 hty e.symm
  refine ⟨w3,hr,⟨vs.set i v',?_,?_,fun j u x hu hx => ?_,fun j l u z k hu hz' hk hk2 => ?_,fun x hx => ?_,h6⟩,(O1.mono fun k _ hk => .inr hk).trans (O2.mono fun k _ hk => .inl hk)⟩
  ·rw [hset,List.length_set,List.length_set,h1]
  ·rw [pushG_names]
   have e1:G.names.zip (vs.set i v')=(G.names.zip vs).set i (s,v'):=by
    refine List.ext_getElem? fun j => ?_;have hjn:∀ j:Nat,G.names[j]?=(G[j]?).map (fun p:ByteArray×List ByteArray => p.1):=fun j => by unfold Gr.names;rw [List.getElem?_map]
    have hl:i<(G.names.zip vs).length:=by rw [List.length_zip];unfold Gr.names;rw [List.length_map];omega
    rw [List.getElem?_set]
    by_cases hj:i=j
    ·subst hj;rw [if_pos rfl,if_pos hl];refine List.getElem?_zip_eq_some.2 ⟨by rw [hjn,hi];rfl,?_⟩;rw [List.getElem?_set,if_pos rfl,if_pos (by omega)]
    ·rw [if_neg hj];unfold List.zip;rw [List.getElem?_zipWith,List.getElem?_zipWith,List.getElem?_set,if_neg hj]
   rw [e1];exact h7
  ·rw [hset] at hx;rw [List.getElem?_set] at hu hx
   by_cases hj:i=j
   ·subst hj;rw [if_pos rfl,if_pos (by omega)] at hu;rw [if_pos rfl,if_pos hlt] at hx;simp only [Option.some.injEq] at hu hx;subst hu;subst hx;exact hv'
   ·rw [if_neg hj] at hu hx;exact old j u x (Ne.symm hj) hu hx
  ·rw [List.getElem?_set] at hu hz'
   have lowk:∀ (j:Nat) u,vs[j]?=some u→u.ownBlock=some k→k<W.heap.size:=fun j u hu hk => by
    have hjl:j<G.length:=by have:=(List.getElem?_eq_some_iff.1 hu).1;omega
    have:=(h3 j u _ hu (List.getElem?_eq_getElem hjl)).block k hk;omega
   by_cases hj:i=j
   ·subst hj;rw [if_pos rfl,if_pos (by omega)] at hu;simp only [Option.some.injEq] at hu;subst hu
    by_cases hl:i=l
    ·exact hl
    ·rw [if_neg hl] at hz';rcases new k hk with e|e
     ·exact h4 i l v z k hv hz' e hk2
     ·have:=lowk l z hz' hk2;omega
   ·rw [if_neg hj] at hu
    by_cases hl:i=l
    ·subst hl;rw [if_pos rfl,if_pos (by omega)] at hz';simp only [Option.some.injEq] at hz';subst hz';rcases new k hk2 with e|e
     ·exact h4 j i u v k hu hv hk e
     ·have:=lowk j u hu hk;omega
    ·rw [if_neg hl] at hz';exact h4 j l u z k hu hz' hk hk2
  ·rw [hset] at hx;rcases List.mem_or_eq_of_mem_set hx with hx|hx
   ·exact h5 x hx
   ·subst hx;have h9:=h5 _ (List.mem_of_getElem? hi);refine ⟨h9.1,fun y hy => ?_⟩;rcases List.mem_append.1 hy with hy|hy
    ·exact h9.2 y hy
    ·rw [List.mem_singleton] at hy;subst hy;exact ht
end
abbrev Nums:=List (ByteArray×Nat)
def lkN (l:Nums) (s:ByteArray):Option Nat:=(l.find? fun x => decide (x.1=s)).map (·.2)
def putN (l:Nums) (s:ByteArray) (n:Nat):Nums:=l.map fun x => if x.1=s then (x.1,n) else x
def nodupB:List ByteArray→Bool
 | [] => true
 | x :: r => !decide (x ∈ r) && nodupB r
theorem nodupB_iff:∀ l:List ByteArray,nodupB l=true→l.Nodup
 | [],_ => List.nodup_nil
 | x :: r,h => by
  unfold nodupB at h;rw [Bool.and_eq_true] at h;rw [List.nodup_cons];exact ⟨by simpa using h.1,nodupB_iff r h.2⟩
structure TS where
 low:Nums
 stk:List ByteArray
 inn:Nums
 out:List (List ByteArray)
def TS.fine (T:TS):Bool:=decide (T.low.length≤100000000) && decide (T.stk.length≤100000000) && decide (T.inn.length≤100000000) && decide (T.out.length≤100000000)
def stepT (v:TS→ByteArray→Option (TS×Nat)) (acc:Option (TS×Nat)) (t:ByteArray):Option (TS×Nat) :=
 match acc with
 | none => none
 | some (T,m) => match lkN T.inn t with
  | some _ => some (T,m)
  | none => match lkN T.low t with
   | some k => some (T,min m k)
   | none => match v T t with
    | none => none
    | some (T',k) => some (T',min m k)
def finT (T:TS) (s:ByteArray) (mine:Nat):Option (TS×Nat) :=
 match idxP s T.stk with
 | none => none
 | some a => if T.fine=true∧nodupB (T.stk.drop a)=true∧((T.stk.drop a).any fun t => (lkN T.inn t).isSome)=false then
     some ({ T with stk:=T.stk.take a,inn:=T.inn++(sortU cmpS (T.stk.drop a)).map (fun t => (t,T.out.length)),out:=T.out++[sortU cmpS (T.stk.drop a)] },mine) else none
def visitT (G:Gr):Nat→TS→ByteArray→Option (TS×Nat)
 | 0,_,_ => none
 | n+1,T,s =>
  if T.fine=true∧lkN T.low s=none then
   match (sucs G s).foldl (stepT (visitT G n)) (some ({ T with low:=T.low++[(s,T.low.length+1)],stk:=T.stk++[s] },T.low.length+1)) with
   | none => none
   | some (T2,m) => if m<T.low.length+1 then (match lkN T2.low s with
       | none => none
       | some _ => some ({ T2 with low:=putN T2.low s m },m)) else finT T2 s (T.low.length+1)
  else none
theorem fold_none (v:TS→ByteArray→Option (TS×Nat)):∀ l:List ByteArray,l.foldl (stepT v) none=none
 | [] => rfl
 | x :: r => by rw [List.foldl_cons];exact fold_none v r
theorem fold_some {v:TS→ByteArray→Option (TS×Nat)} {l:List ByteArray} {a:TS×Nat} {r:TS×Nat} (h:l.foldl (stepT v) (some a)=some r) (k:Nat):∃ b,(l.take k).foldl (stepT v) (some a)=some b:=by
 cases hq:(l.take k).foldl (stepT v) (some a) with
 | some b => exact ⟨b,rfl⟩
 | none =>
  rw [← List.take_append_drop k l,List.foldl_append,hq,fold_none] at h;cases h
def encN (l:Nums):List (ByteArray×Value):=l.map fun x => (x.1,.int .i64 (x.2:Nat))
theorem encN_keys (l:Nums):(encN l).map (·.1)=l.map (·.1):=by unfold encN;rw [List.map_map];rfl
theorem lkN_at {l:Nums} (hn:(l.map (·.1)).Nodup) {s:ByteArray} {n:Nat} (h:lkN l s=some n):∃ i:Nat,l[i]?=some (s,n):=by
 unfold lkN at h;cases hq:l.find? (fun x => decide (x.1=s)) with
 | none => rw [hq] at h;cases h
 | some x =>
  rw [hq] at h;injection h with h
  obtain ⟨i,hi⟩:=List.getElem?_of_mem (List.mem_of_find?_eq_some hq);have h1:x.1=s:=by simpa using List.find?_some hq
  exact ⟨i,by rw [hi,← h1,← h]⟩
theorem lkN_none {l:Nums} {s:ByteArray} (h:lkN l s=none):∀ x ∈ l,x.1≠s:=fun x hx e => by
 unfold lkN at h;rw [Option.map_eq_none_iff,List.find?_eq_none] at h;exact h x hx (by simpa using e)
theorem look_num {w:World} {b:Nat} {l:Nums} {s:ByteArray} (h:MapE strV w b (encN l)) (hs:∀ x ∈ l,x.1.size≤140737488351232) (hp:s.size≤140737488351232) :
    (Instr.lookup tVm (.map (some b)) (.string s) true).run Tryz.prog w = .ok (.tuple #[.int .i64 (((lkN l s).getD 0:Nat):Int),.bool (lkN l s).isSome]) w∧(Instr.lookup tVm (.map (some b)) (.string s) false).run Tryz.prog w = .ok (.int .i64 (((lkN l s).getD 0:Nat):Int)) w:=by
 have hok:∀ q ∈ encN l,q.1.size≤maxLen:=fun q hq => by
  obtain ⟨x,hx,rfl⟩:=List.mem_map.1 hq;exact Nat.le_trans (hs x hx) (by unfold maxLen;omega)
 have h1:=h.look (t:=tVm) keyStr hok Tryz.underlying97 zeroInt (x:=s) (Nat.le_trans hp (by unfold maxLen;omega))
 have hg:getE (encN l) s=(lkN l s).map fun n => .int .i64 (n:Nat):=by
  unfold getE encN lkN;rw [List.find?_map,Option.map_map,Option.map_map];rfl
 rw [hg] at h1;cases hq:lkN l s with
 | none => rw [hq] at h1;exact ⟨h1.2,h1.1⟩
 | some n => rw [hq] at h1;exact ⟨h1.2,h1.1⟩
theorem push_num {w:World} {b:Nat} {l:Nums} {s:ByteArray} (h:MapE strV w b (encN l)) (hs:∀ x ∈ l,x.1.size≤140737488351232) (hp:s.size≤140737488351232) (hn:lkN l s=none) (n:Nat) :
    ∃ w',(Instr.mapUpdate tVm (.map (some b)) (.string s) (.int .i64 (n:Nat))).run Tryz.prog w = .ok () w'∧MapE strV w' b (encN (l++[(s,n)]))∧w.grownBy w' (some b):=by
 have hok:∀ q ∈ encN l,q.1.size≤maxLen:=fun q hq => by
  obtain ⟨x,hx,rfl⟩:=List.mem_map.1 hq;exact Nat.le_trans (hs x hx) (by unfold maxLen;omega)
 obtain ⟨w',h1,h2,h3⟩:=h.push (t:=tVm) keyStr hok Tryz.underlying97 (x:=s) (Nat.le_trans hp (by unfold maxLen;omega)) (fun q hq => by
  obtain ⟨x,hx,rfl⟩:=List.mem_map.1 hq;exact lkN_none hn x hx) (.int .i64 (n:Nat))
 refine ⟨w',h1,?_,h3⟩;have e:encN (l++[(s,n)])=encN l++[(s,.int .i64 (n:Nat))]:=by unfold encN;rw [List.map_append];rfl
 rw [e];exact h2
theorem putN_set {l:Nums} (hn:(l.map (·.1)).Nodup) {i:Nat} {s:ByteArray} {m:Nat} (hi:l[i]?=some (s,m)) (n:Nat):putN l s n=l.set i (s,n):=by
 refine List.ext_getElem? fun j => ?_;unfold putN;rw [List.getElem?_map,List.getElem?_set]
 by_cases hj:i=j
 ·subst hj;rw [if_pos rfl,if_pos (List.getElem?_eq_some_iff.1 hi).1,hi];simp
 ·rw [if_neg hj];cases hx:l[j]? with
  | none => rfl
  | some x =>
   have hne:x.1≠s:=fun e => by
    have e1:(l.map (·.1))[i]?=some s:=by rw [List.getElem?_map,hi];rfl
    have e2:(l.map (·.1))[j]?=some s:=by rw [List.getElem?_map,hx,← e];rfl
    exact hj (List.getElem?_inj (List.getElem?_eq_some_iff.1 e1).1 hn |>.1 (e1.trans e2.symm))
   simp [hne]
theorem put_num {w:World} {b:Nat} {l:Nums} {s:ByteArray} {m:Nat} (h:MapE strV w b (encN l)) (hs:∀ x ∈ l,x.1.size≤140737488351232) (hp:s.size≤140737488351232) (hn:lkN l s=some m) (n:Nat) :
    ∃ w',(Instr.mapUpdate tVm (.map (some b)) (.string s) (.int .i64 (n:Nat))).run Tryz.prog w = .ok () w'∧MapE strV w' b (encN (putN l s n))∧w.grownBy w' (some b):=by
 have hok:∀ q ∈ encN l,q.1.size≤maxLen:=fun q hq => by
  obtain ⟨x,hx,rfl⟩:=List.mem_map.1 hq;exact Nat.le_trans (hs x hx) (by unfold maxLen;omega)
 have hnd:(l.map (·.1)).Nodup:=by
  have:=h.nodup
  rwa [encN_keys] at this
 obtain ⟨i,hi⟩:=lkN_at hnd hn;obtain ⟨w',h1,h2,h3⟩:=h.put (t:=tVm) keyStr hok Tryz.underlying97 (x:=s) (Nat.le_trans hp (by unfold maxLen;omega)) (j:=i) (u:=.int .i64 (m:Nat)) (by unfold encN;rw [List.getElem?_map,hi];rfl) (.int .i64 (n:Nat));refine ⟨w',h1,?_,h3⟩;rw [putN_set hnd hi];unfold encN;rw [List.map_set];exact h2
abbrev tLL:TypeId:=25
def RLs (C:Nat) (sv:Value) (w:World) (cs:List Value) (L:List ByteArray):Prop:=∃ v,cs=[v]∧Nms C w v L∧∀ k,v.ownBlock=some k→sv.ownBlock≠some k
theorem RLs.stays {C:Nat} {sv:Value}:Stays (RLs C sv):=fun _ _ _ _ hf ⟨v,h1,h2,h3⟩ => ⟨v,h1,h2.fut RNm.stays hf,h3⟩
theorem RLs.keeps {C:Nat} {sv:Value}:Keeps 76 (RLs C sv):=fun w w' row cs x ⟨v,h1,h2,h3⟩ hg ht => ⟨v,h1,OwnL.kept h2 (fun _ _ h => h) hg ht (by decide),h3⟩
theorem RLs.low {C C':Nat} {sv:Value} {w:World} {cs:List Value} {x:List ByteArray} (hC:C'≤C) (h:RLs C sv w cs x):RLs C' (.slice none 0 0) w cs x:=by
 obtain ⟨v,g1,g2,_⟩:=h;exact ⟨v,g1,g2.base hC,fun k _ e => by cases e⟩
theorem RLs.one {C:Nat} {sv:Value}:∀ (w:World) cs x,RLs C sv w cs x→∀ u ∈ cs,u.oneCell'=true:=fun w cs x ⟨v,h1,h2,_⟩ u hu => by
 obtain ⟨_,_,rfl,_⟩:=h2.rep.form;subst h1;simp only [List.mem_singleton] at hu;subst hu;rfl
structure TSt (B:Nat) (W:World) (lb sb ib ob lmb imb:Nat) (T:TS) (sv ov:Value):Prop where
 lowc:W.heap[lb]?=some (.cells #[.map (some lmb)] tVm (0,0))
 lowm:MapE strV W lmb (encN T.low)
 innc:W.heap[ib]?=some (.cells #[.map (some imb)] tVm (0,0))
 innm:MapE strV W imb (encN T.inn)
 stkc:W.heap[sb]?=some (.cells #[sv] tVl' (0,0))
 stk:Nms B W sv T.stk
 outc:W.heap[ob]?=some (.cells #[ov] tLL (0,0))
 out:OwnL 1 B 76 (RLs B sv) W ov T.out
 sep:∀ k,ov.ownBlock=some k→k≠sb
 lows:∀ x ∈ T.low,x.1.size≤140737488351232
 inns:∀ x ∈ T.inn,x.1.size≤140737488351232
 stks:∀ x ∈ T.stk,x.size≤140737488351232
 ne:lmb≠imb
 lt:sb<B
section
variable {B lb sb ib ob lmb imb:Nat} {W w':World} {T:TS} {sv ov sv' ov':Value}
theorem TSt.fut (h:TSt B W lb sb ib ob lmb imb T sv ov) (hf:Fut W w'):TSt B w' lb sb ib ob lmb imb T sv ov :=
 ⟨hf.block h.lowc,h.lowm.fut hf,hf.block h.innc,h.innm.fut hf,hf.block h.stkc,h.stk.fut RNm.stays hf,hf.block h.outc,h.out.fut RLs.stays hf,h.sep,h.lows,h.inns,h.stks,h.ne,h.lt⟩
theorem TSt.noMap (h:TSt B W lb sb ib ob lmb imb T sv ov) {k:Nat} {arr:Array Value} {t:TypeId} (hk:W.heap[k]?=some (.cells arr t (0,0))):k≠lmb∧k≠imb:=⟨(map_ne h.lowm hk).symm,(map_ne h.innm hk).symm⟩
theorem outs_move {S:Nat→Prop} {xs:List (List ByteArray)} (ho:OwnL 1 B 76 (RLs B sv) W ov xs) (hO:Only S W w') (h1:∀ k,ov.ownBlock=some k→¬ S k) (h2:∀ k,(∃ arr,W.heap[k]?=some (.cells arr 9 (0,0)))→sv.ownBlock≠some k→¬ S k) (h3:∀ k,k<W.heap.size→sv'.ownBlock=some k→sv.ownBlock=some k):OwnL 1 B 76 (RLs B sv') w' ov xs:=by
 have q1:OwnL 1 B 76 (fun _ cs x => RLs B sv W cs x) W ov xs:=ho.imp fun cs x hx => hx;have q2:OwnL 1 B 76 (fun _ cs x => RLs B sv W cs x) w' ov xs:=q1.only (fun _ _ h => h) hO h1;refine q2.imp fun cs x hx => ?_;obtain ⟨v,g1,g2,g3⟩:=hx;refine ⟨v,g1,g2.only (fun _ _ h => h) hO fun k hk => h2 k (g2.typed k hk) (g3 k hk),fun k hk e => g3 k hk (h3 k (g2.block k hk).2 e)⟩
theorem TSt.mapStep (h:TSt B W lb sb ib ob lmb imb T sv ov) {m:Nat} (hm:m=lmb∨m=imb) (hO:Only (fun k => k=m) W w') :
    w'.heap[lb]?=some (.cells #[.map (some lmb)] tVm (0,0))∧w'.heap[ib]?=some (.cells #[.map (some imb)] tVm (0,0))∧w'.heap[sb]?=some (.cells #[sv] tVl' (0,0))∧Nms B w' sv T.stk∧w'.heap[ob]?=some (.cells #[ov] tLL (0,0))∧OwnL 1 B 76 (RLs B sv) w' ov T.out:=by
 have off:∀ {k:Nat} {arr:Array Value} {t:TypeId},W.heap[k]?=some (.cells arr t (0,0))→¬ k=m:=fun hk e => by
  have:=h.noMap hk;rcases hm with rfl|rfl
  ·exact this.1 e
  ·exact this.2 e
 refine ⟨hO.keeps h.lowc (off h.lowc),hO.keeps h.innc (off h.innc),hO.keeps h.stkc (off h.stkc),h.stk.only (fun _ _ h => h) hO fun k hk => ?_,hO.keeps h.outc (off h.outc),outs_move h.out hO (fun k hk => ?_) (fun k hk _ => ?_) (fun k _ e => e)⟩
 ·obtain ⟨arr,g⟩:=h.stk.typed k hk;exact off g
 ·obtain ⟨arr,g⟩:=h.out.typed k hk;exact off g
 ·obtain ⟨arr,g⟩:=hk;exact off g
theorem TSt.lowPush (h:TSt B W lb sb ib ob lmb imb T sv ov) {s:ByteArray} (hs:s.size≤140737488351232) (hn:lkN T.low s=none) (n:Nat):∃ w',(Instr.mapUpdate tVm (.map (some lmb)) (.string s) (.int .i64 (n:Nat))).run Tryz.prog W = .ok () w'∧TSt B w' lb sb ib ob lmb imb { T with low:=T.low++[(s,n)] } sv ov∧Only (fun k => k=lmb) W w':=by
 obtain ⟨w',h1,h2,h3⟩:=push_num h.lowm h.lows hs hn n;have O:Only (fun k => k=lmb) W w':=Only.grown h3 fun k hk => (Option.some.inj hk).symm;obtain ⟨a1,a2,a3,a4,a5,a6⟩:=h.mapStep (.inl rfl) O;refine ⟨w',h1,⟨a1,h2,a2,h.innm.kept (O.block imb h.innm.lt fun e => h.ne e.symm),a3,a4,a5,a6,h.sep,fun x hx => ?_,h.inns,h.stks,h.ne,h.lt⟩,O⟩;rcases List.mem_append.1 hx with hx|hx
 ·exact h.lows x hx
 ·rw [List.mem_singleton] at hx;subst hx;exact hs
theorem TSt.lowPut (h:TSt B W lb sb ib ob lmb imb T sv ov) {s:ByteArray} {m:Nat} (hs:s.size≤140737488351232) (hn:lkN T.low s=some m) (n:Nat):∃ w',(Instr.mapUpdate tVm (.map (some lmb)) (.string s) (.int .i64 (n:Nat))).run Tryz.prog W = .ok () w'∧TSt B w' lb sb ib ob lmb imb { T with low:=putN T.low s n } sv ov∧Only (fun k => k=lmb) W w':=by
 obtain ⟨w',h1,h2,h3⟩:=put_num h.lowm h.lows hs hn n;have O:Only (fun k => k=lmb) W w':=Only.grown h3 fun k hk => (Option.some.inj hk).symm;obtain ⟨a1,a2,a3,a4,a5,a6⟩:=h.mapStep (.inl rfl) O;refine ⟨w',h1,⟨a1,h2,a2,h.innm.kept (O.block imb h.innm.lt fun e => h.ne e.symm),a3,a4,a5,a6,h.sep,fun x hx => ?_,h.inns,h.stks,h.ne,h.lt⟩,O⟩;unfold putN at hx;obtain ⟨y,hy,rfl⟩:=List.mem_map.1 hx
 split
 ·exact h.lows y hy
 ·exact h.lows y hy
theorem TSt.innPush (h:TSt B W lb sb ib ob lmb imb T sv ov) {s:ByteArray} (hs:s.size≤140737488351232) (hn:lkN T.inn s=none) (n:Nat):∃ w',(Instr.mapUpdate tVm (.map (some imb)) (.string s) (.int .i64 (n:Nat))).run Tryz.prog W = .ok () w'∧TSt B w' lb sb ib ob lmb imb { T with inn:=T.inn++[(s,n)] } sv ov∧Only (fun k => k=imb) W w':=by
 obtain ⟨w',h1,h2,h3⟩:=push_num h.innm h.inns hs hn n;have O:Only (fun k => k=imb) W w':=Only.grown h3 fun k hk => (Option.some.inj hk).symm;obtain ⟨a1,a2,a3,a4,a5,a6⟩:=h.mapStep (.inr rfl) O;refine ⟨w',h1,⟨a1,h.lowm.kept (O.block lmb h.lowm.lt h.ne),a2,h2,a3,a4,a5,a6,h.sep,h.lows,fun x hx => ?_,h.stks,h.ne,h.lt⟩,O⟩;rcases List.mem_append.1 hx with hx|hx
 ·exact h.inns x hx
 ·rw [List.mem_singleton] at hx;subst hx;exact hs
end
section
variable {B lb sb ib ob lmb imb:Nat} {W w':World} {T:TS} {sv ov sv' ov':Value}
theorem TSt.sbW (h:TSt B W lb sb ib ob lmb imb T sv ov):sb<W.heap.size:=(Array.getElem?_eq_some_iff.1 h.stkc).1
theorem TSt.setStk (h:TSt B W lb sb ib ob lmb imb T sv ov) (O1:Only (fun k => sv.ownBlock=some k) W w') (hnew:∀ k,k<W.heap.size→sv'.ownBlock=some k→sv.ownBlock=some k) {st:List ByteArray} (o:Nms B w' sv' st) (hst:∀ x ∈ st,x.size≤140737488351232) :
    w'.cell? ⟨sb,0,none⟩=some sv∧w'.frozen? ⟨sb,0,none⟩=false∧TSt B (w'.setCell ⟨sb,0,none⟩ sv') lb sb ib ob lmb imb { T with stk:=st } sv' ov∧Only (fun k => k=sb∨sv.ownBlock=some k) W (w'.setCell ⟨sb,0,none⟩ sv'):=by
 have off:∀ {k:Nat} {arr:Array Value} {t:TypeId},W.heap[k]?=some (.cells arr t (0,0))→t≠9→¬ sv.ownBlock=some k:=fun hk ht e => by
  obtain ⟨arr,g⟩:=h.stk.typed _ e;exact other_block hk g ht rfl
 have a1:=O1.keeps h.lowc (off h.lowc (by decide));have a2:=O1.keeps h.innc (off h.innc (by decide));have a3:=O1.keeps h.stkc (off h.stkc (by decide));have a4:=O1.keeps h.outc (off h.outc (by decide));have m1:=h.lowm.kept (O1.block lmb h.lowm.lt fun e => by obtain ⟨arr,g⟩:=h.stk.typed _ e;exact map_ne h.lowm g rfl);have m2:=h.innm.kept (O1.block imb h.innm.lt fun e => by obtain ⟨arr,g⟩:=h.stk.typed _ e;exact map_ne h.innm g rfl);have o1:OwnL 1 B 76 (RLs B sv') w' ov T.out:=outs_move h.out O1 (fun k hk e => by obtain ⟨arr,g⟩:=h.out.typed k hk;exact off g (by decide) e) (fun k _ hne e => hne e) hnew;have O2:Only (fun k => k=sb) w' (w'.setCell ⟨sb,0,none⟩ sv'):=Only.set _ _ rfl;refine ⟨cell_at a3 0 _ rfl,free_at a3 0,⟨O2.keeps a1 (other_block a1 a3 (by decide)),m1.kept (O2.block lmb m1.lt (map_ne m1 a3)),O2.keeps a2 (other_block a2 a3 (by decide)),m2.kept (O2.block imb m2.lt (map_ne m2 a3)),set_block a3,o.only (fun _ _ h => h) O2 fun k hk e => ?_,O2.keeps a4 (other_block a4 a3 (by decide)),outs_move o1 O2 h.sep (fun k hk _ e => ?_) (fun k _ e => e),h.sep,h.lows,h.inns,hst,h.ne,h.lt⟩,(O1.mono fun k _ hk => .inr hk).trans (O2.mono fun k _ hk => .inl hk)⟩
 ·obtain ⟨arr,g⟩:=o.typed k hk;exact other_block g a3 (by decide) e
 ·obtain ⟨arr,g⟩:=hk;exact other_block g a3 (by decide) e
theorem OwnL.takeN {a n cap:Nat} {g:Option Addr} {xs:List ByteArray} (h:Nms B W (.slice g n cap) xs) (ha:a≤xs.length) (hpos:0<xs.length):Nms B W (.slice g a cap) (xs.take a):=by
 obtain ⟨css,h1,h2,h3,h4⟩:=h;rcases h4 with ⟨hv,hz⟩|⟨gb,cp,cur,hv,b1,b2,b3,b4,b5,b6⟩
 ·omega
 ·injection hv with e1 e2 e3
  subst e1;subst e2;subst e3
  have hl1:∀ (i:Nat) (cs:List Value),css[i]?=some cs→cs.length=1:=fun i cs hi => by
   have hil:i<xs.length:=by have:=(List.getElem?_eq_some_iff.1 hi).1;omega
   exact (h2 i cs _ hi (List.getElem?_eq_getElem hil)).1
  have hfl:=flatten_len hl1
  have hlt:∀ (i:Nat) (cs:List Value),(css.take a)[i]?=some cs→cs.length=1:=fun i cs hi => by
   have hil:i<a:=by
    have:=(List.getElem?_eq_some_iff.1 hi).1;rw [List.length_take] at this;omega
   rw [List.getElem?_take,if_pos hil] at hi;exact hl1 i cs hi
  have hfl2:=flatten_len hlt
  have hpre:(css.take a).flatten=css.flatten.take a:=by
   have e:css.flatten=(css.take a).flatten++(css.drop a).flatten:=by rw [← List.flatten_append,List.take_append_drop]
   rw [e];have hla:(css.take a).flatten.length=a:=by rw [hfl2,List.length_take];omega
   exact (List.take_left' hla).symm
  refine ⟨css.take a,by rw [List.length_take,List.length_take];omega,fun i cs x hi hx => ?_,?_,?_⟩
  ·have hil:i<a:=by
     have:=(List.getElem?_eq_some_iff.1 hi).1;rw [List.length_take] at this;omega
   rw [List.getElem?_take,if_pos hil] at hi hx;exact h2 i cs x hi hx
  ·rw [hfl2,List.length_take,List.length_take];omega
  ·refine .inr ⟨gb,cap,cur,?_,b1,b2,?_,b4,b5,?_⟩
   ·rw [List.length_take,Nat.min_eq_left ha]
   ·rw [List.length_take];omega
   ·rw [hpre,← b6,List.take_take,List.length_take];congr 1;omega
theorem TSt.outPush (h:TSt B W lb sb ib ob lmb imb T sv ov) {P:List ByteArray} (o:OwnL 1 B 76 (RLs B sv) w' ov' (T.out++[P])) (g:W.grownBy w' ov.ownBlock) (sn:SameOrNew W ov ov') :
    w'.cell? ⟨ob,0,none⟩=some ov∧w'.frozen? ⟨ob,0,none⟩=false∧TSt B (w'.setCell ⟨ob,0,none⟩ ov') lb sb ib ob lmb imb { T with out:=T.out++[P] } sv ov'∧Only (fun k => k=ob∨ov.ownBlock=some k) W (w'.setCell ⟨ob,0,none⟩ ov'):=by
 have O1:Only (fun k => ov.ownBlock=some k) W w':=Only.grown g fun k hk => hk
 have off:∀ {k:Nat} {arr:Array Value} {t:TypeId},W.heap[k]?=some (.cells arr t (0,0))→t≠76→¬ ov.ownBlock=some k:=fun hk ht e => by
  obtain ⟨arr,g⟩:=h.out.typed _ e;exact other_block hk g ht rfl
 have a1:=O1.keeps h.lowc (off h.lowc (by decide));have a2:=O1.keeps h.innc (off h.innc (by decide));have a3:=O1.keeps h.stkc (fun e => h.sep _ e rfl);have a4:=O1.keeps h.outc (off h.outc (by decide));have m1:=h.lowm.kept (O1.block lmb h.lowm.lt fun e => by obtain ⟨arr,g⟩:=h.out.typed _ e;exact map_ne h.lowm g rfl);have m2:=h.innm.kept (O1.block imb h.innm.lt fun e => by obtain ⟨arr,g⟩:=h.out.typed _ e;exact map_ne h.innm g rfl)
 have s1:Nms B w' sv T.stk:=h.stk.only (fun _ _ h => h) O1 fun k hk e => by
  obtain ⟨arr,g⟩:=h.stk.typed k hk;exact off g (by decide) e
 have O2:Only (fun k => k=ob) w' (w'.setCell ⟨ob,0,none⟩ ov'):=Only.set _ _ rfl;have hsb:=h.sbW;refine ⟨cell_at a4 0 _ rfl,free_at a4 0,⟨O2.keeps a1 (other_block a1 a4 (by decide)),m1.kept (O2.block lmb m1.lt (map_ne m1 a4)),O2.keeps a2 (other_block a2 a4 (by decide)),m2.kept (O2.block imb m2.lt (map_ne m2 a4)),O2.keeps a3 (other_block a3 a4 (by decide)),s1.only (fun _ _ h => h) O2 fun k hk e => ?_,set_block a4,outs_move o O2 (fun k hk e => ?_) (fun k hk _ e => ?_) (fun k _ e => e),fun k hk => ?_,h.lows,h.inns,h.stks,h.ne,h.lt⟩,(O1.mono fun k _ hk => .inr hk).trans (O2.mono fun k _ hk => .inl hk)⟩
 ·obtain ⟨arr,g⟩:=s1.typed k hk;exact other_block g a4 (by decide) e
 ·obtain ⟨arr,g⟩:=o.typed k hk;exact other_block g a4 (by decide) e
 ·obtain ⟨arr,g⟩:=hk;exact other_block g a4 (by decide) e
 ·rcases sn with e|e
  ·rw [e] at hk;exact h.sep k hk
  ·have:=e k hk;omega
end
theorem GrI.lookO {B mb:Nat} {W:World} {G:Gr} {S:Nat→Prop} (h:GrI B W mb G) {s:ByteArray} (hs:s.size≤140737488351232) (hm:¬ S mb):∃ v,Nms B W v (sucs G s)∧(∀ x ∈ sucs G s,x.size≤140737488351232)∧∀ W',Only S W W'→(Instr.lookup tG (.map (some mb)) (.string s) false).run Tryz.prog W' = .ok v W':=by
 have hz:=h.sizes;have hn:=h.nodup;obtain ⟨vs,h1,h2,h3,h4,h5,h6⟩:=h
 by_cases e:s ∈ G.names
 ·obtain ⟨i,S',hi⟩:=names_at e;have hlt:=(List.getElem?_eq_some_iff.1 hi).1;obtain ⟨v,hv⟩:∃ v,vs[i]?=some v:=⟨_,List.getElem?_eq_getElem (by omega)⟩
  have hg:=getE_at h2.nodup (zip_at hi hv);refine ⟨v,by rw [sucs_at hn hi];exact h3 i v _ hv hi,by rw [sucs_at hn hi];exact (h5 _ (List.mem_of_getElem? hi)).2,fun W' hW => ?_⟩;have:=((h2.kept (hW.block mb h2.lt hm)).look (t:=tG) keyStr (zip_ok hz) Tryz.underlying95 zeroSl (x:=s) (Nat.le_trans hs (by unfold maxLen;omega))).1;rw [show getE (G.names.zip vs) s=some v from hg] at this;exact this
 ·have hg:getE (G.names.zip vs) s=none:=getE_none fun p hp he => e (by rw [← he];exact (List.of_mem_zip hp).1);refine ⟨.slice none 0 0,by rw [sucs_none e];exact OwnL.nil,by rw [sucs_none e];exact fun x hx => (by cases hx),fun W' hW => ?_⟩;have:=((h2.kept (hW.block mb h2.lt hm)).look (t:=tG) keyStr (zip_ok hz) Tryz.underlying95 zeroSl (x:=s) (Nat.le_trans hs (by unfold maxLen;omega))).1;rw [hg] at this;exact this
end Go.Proofs.YtobabnpllokkaaaGreatDoor
