/- Parts. -/
import Derived.Sort.Grow
import Derived.Deep.Draws
import Derived.Sort.Row
import Derived.Shelf.SlSortCmp.Whole1
import Derived.Ground.SlsfProg
import Derived.Test.YtobabnpllokkaaaGreatDoorProg
import Derived.Test.YtobabnpllokkaaaGreatDoorM19
import Derived.Test.YtobabnpllokkaaaGreatDoorM18
import Derived.Test.YtobabnpllokkaaaGreatDoorM15
import Derived.Test.YtobabnpllokkaaaGreatDoorM16
import Derived.Test.YtobabnpllokkaaaGreatDoorM01
import Derived.Test.YtobabnpllokkaaaGreatDoorM07
import Derived.Test.YtobabnpllokkaaaGreatDoorM02
import Derived.Test.YtobabnpllokkaaaGreatDoorM13
set_option linter.unusedSimpArgs false
set_option linter.unusedVariables false
namespace Go.Proofs.YtobabnpllokkaaaGreatDoor
open Go.RowKit
structure ReInv (G:Gr) (F st seen:List ByteArray):Prop where
 nd:seen.Nodup
 snd:∀ x,x ∈ st∨x ∈ seen→∃ f ∈ F,Rch G f x
 frm:∀ f ∈ F,f ∈ st∨f ∈ seen
 cl:∀ s ∈ seen,∀ t ∈ sucs G s,t ∈ st∨t ∈ seen
theorem ReInv.start (G:Gr) (F:List ByteArray):ReInv G F F [] :=
 ⟨List.nodup_nil,(fun x hx => by
  rcases hx with hx | hx
  ·exact ⟨x,hx,.refl x⟩
  ·exact nomatch hx),(fun f hf => .inl hf),(fun s hs => nomatch hs)⟩
section
variable {G:Gr} {F st seen:List ByteArray} {s:ByteArray}
theorem ReInv.skip (h:ReInv G F (st ++ [s]) seen) (hs:s ∈ seen):ReInv G F st seen:=by
 refine ⟨h.nd,fun x hx => h.snd x (hx.imp (List.mem_append_left _) id),fun f hf => ?_,fun u hu t ht => ?_⟩
 ·rcases h.frm f hf with q | q
  ·rcases List.mem_append.1 q with q | q
   ·exact .inl q
   ·rw [List.mem_singleton] at q;subst q;exact .inr hs
  ·exact .inr q
 ·rcases h.cl u hu t ht with q | q
  ·rcases List.mem_append.1 q with q | q
   ·exact .inl q
   ·rw [List.mem_singleton] at q;subst q;exact .inr hs
  ·exact .inr q
theorem ReInv.take (h:ReInv G F (st ++ [s]) seen) (hs:s ∉ seen):ReInv G F (st ++ sucs G s) (seen ++ [s]):=by
 have h0:=h.snd s (.inl (List.mem_append_right _ (List.mem_singleton.2 rfl)))
 have hup:∀ x,x ∈ st ++ [s]∨x ∈ seen→x ∈ st ++ sucs G s∨x ∈ seen ++ [s]:=fun x hx => by
  rcases hx with hx | hx
  ·rcases List.mem_append.1 hx with q | q
   ·exact .inl (List.mem_append_left _ q)
   ·exact .inr (List.mem_append_right _ q)
  ·exact .inr (List.mem_append_left _ hx)
 refine ⟨?_,fun x hx => ?_,fun f hf => hup f (h.frm f hf),fun u hu t ht => ?_⟩
 ·rw [List.nodup_append]
  refine ⟨h.nd,by simp,fun a ha b hb e => ?_⟩
  rw [List.mem_singleton] at hb
  exact hs (by rw [← hb,← e];exact ha)
 ·rcases hx with hx | hx
  ·rcases List.mem_append.1 hx with q | q
   ·exact h.snd x (.inl (List.mem_append_left _ q))
   ·obtain ⟨f,hf,hr⟩:=h0
    exact ⟨f,hf,hr.trans (.one q)⟩
  ·rcases List.mem_append.1 hx with q | q
   ·exact h.snd x (.inr q)
   ·rw [List.mem_singleton] at q;subst q;exact h0
 ·rcases List.mem_append.1 hu with q | q
  ·exact hup t (h.cl u q t ht)
  ·rw [List.mem_singleton] at q;subst q
   exact .inl (List.mem_append_right _ ht)
theorem ReInv.done (h:ReInv G F [] seen) (x:ByteArray):x ∈ seen↔∃ f ∈ F,Rch G f x:=by
 refine ⟨fun hx => h.snd x (.inr hx),fun ⟨f,hf,hr⟩ => ?_⟩
 refine hr.closed (D:=fun x => x ∈ seen) (fun u hu t ht => ?_) ?_
 ·rcases h.cl u hu t ht with q | q
  ·cases q
  ·exact q
 ·rcases h.frm f hf with q | q
  ·cases q
  ·exact q
end
def reW (seen:List ByteArray) (x:ByteArray × List ByteArray):Nat:=if x.1 ∈ seen then 0 else x.2.length
def reM (G:Gr) (st seen:List ByteArray):Nat:=st.length + (G.map (reW seen)).sum
theorem reW_le {seen:List ByteArray} {s:ByteArray} (x:ByteArray × List ByteArray):reW (seen ++ [s]) x ≤ reW seen x:=by
 unfold reW
 by_cases h:x.1 ∈ seen
 ·rw [if_pos h,if_pos (List.mem_append_left _ h)];exact Nat.le_refl _
 ·rw [if_neg h]
  split
  ·omega
  ·exact Nat.le_refl _
theorem reM_sum {seen:List ByteArray} {s:ByteArray} (hs:s ∉ seen):∀ G:Gr,(sucs G s).length + (G.map (reW (seen ++ [s]))).sum ≤ (G.map (reW seen)).sum
 | [] => by simp [sucs]
 | x :: r => by
  rw [List.map_cons,List.map_cons,List.sum_cons,List.sum_cons]
  by_cases h:x.1 = s
  ·have e1:sucs (x :: r) s = x.2:=by unfold sucs;rw [List.find?_cons_of_pos (by simpa using h)];rfl
   have e2:reW (seen ++ [s]) x = 0:=by unfold reW;rw [if_pos];rw [h];exact List.mem_append_right _ (List.mem_singleton.2 rfl)
   have e3:reW seen x = x.2.length:=by unfold reW;rw [if_neg];rw [h];exact hs
   have e4:(r.map (reW (seen ++ [s]))).sum ≤ (r.map (reW seen)).sum:=by
    clear e1 e2 e3 h
    induction r with
    | nil => simp
    | cons y r ih =>
     rw [List.map_cons,List.map_cons,List.sum_cons,List.sum_cons]
     have:=reW_le (seen:=seen) (s:=s) y
     omega
   rw [e1,e2,e3]
   omega
  ·have e1:sucs (x :: r) s = sucs r s:=by unfold sucs;rw [List.find?_cons_of_neg (by simpa using h)]
   have h2:=reM_sum hs r
   have h3:=reW_le (seen:=seen) (s:=s) x
   rw [e1]
   omega
theorem reM_take {G:Gr} {st seen:List ByteArray} {s:ByteArray} (hs:s ∉ seen):reM G (st ++ sucs G s) (seen ++ [s]) < reM G (st ++ [s]) seen:=by
 unfold reM
 have:=reM_sum hs G
 rw [List.length_append,List.length_append,List.length_singleton]
 omega
theorem reM_skip {G:Gr} {st seen:List ByteArray} {s:ByteArray}:reM G st seen < reM G (st ++ [s]) seen:=by
 unfold reM
 rw [List.length_append,List.length_singleton]
 omega
theorem reM_start (G:Gr) (F:List ByteArray):reM G F [] = F.length + (G.map (fun x => x.2.length)).sum:=by
 unfold reM
 congr 2
theorem least_ex9 {p:Nat→Prop}:∀ n,p n→∃ m,p m∧∀ k,p k→m ≤ k:=by
 intro n
 induction n using Nat.strongRecOn with
 | ind n ih =>
  intro hn
  by_cases h:∃ k,k < n∧p k
  ·obtain ⟨k,h1,h2⟩:=h
   exact ih k h1 h2
  ·exact ⟨n,hn,fun k hk => Nat.le_of_not_lt fun hlt => h ⟨k,hlt,hk⟩⟩
theorem least_ex8 {P:Nat→Prop} (h:∃ n,P n):∃ m,P m∧∀ k,P k→m ≤ k:=by
 obtain ⟨n,hn⟩:=h
 exact least_ex9 n hn
noncomputable def leastOf (P:Nat→Prop):Nat:=by
 classical exact if h:∃ n,P n then Classical.choose (least_ex8 h) else 0
theorem leastOf_spec {P:Nat→Prop} (h:∃ n,P n):P (leastOf P):=by
 unfold leastOf
 rw [dif_pos h]
 exact (Classical.choose_spec (least_ex8 h)).1
theorem leastOf_le {P:Nat→Prop} {n:Nat} (h:P n):leastOf P ≤ n:=by
 unfold leastOf
 rw [dif_pos ⟨n,h⟩]
 exact (Classical.choose_spec (least_ex8 ⟨n,h⟩)).2 n h
theorem sum_pushG (G:Gr) (hn:G.names.Nodup) (s t:ByteArray):((pushG G s t).map (fun x => x.2.length)).sum ≤ (G.map (fun x => x.2.length)).sum + 1:=by
 induction G with
 | nil => simp [pushG]
 | cons x r ih =>
  have hn2:x.1 ∉ Gr.names r∧(Gr.names r).Nodup:=List.nodup_cons.1 hn
  have ih:=ih hn2.2
  unfold pushG at *
  rw [List.map_cons,List.map_cons,List.sum_cons,List.map_cons,List.sum_cons]
  by_cases h:x.1 = s
  ·rw [if_pos h]
   have e:(r.map fun x => if x.1 = s then (x.1,x.2 ++ [t]) else x) = r:=by
    conv => rhs;rw [← List.map_id r]
    refine List.map_congr_left fun y hy => ?_
    rw [if_neg]
    ·rfl
    ·intro e
     exact hn2.1 (by rw [h,← e];exact List.mem_map_of_mem hy)
   rw [e]
   simp
   omega
  ·rw [if_neg h]
   omega
theorem sum_addG (G:Gr) (s:ByteArray):((addG G s).map (fun x => x.2.length)).sum = (G.map (fun x => x.2.length)).sum:=by
 unfold addG
 split
 ·rfl
 ·simp
def gSum (G:Gr):Nat:=(G.map (fun x => x.2.length)).sum
theorem sum_fold (p:ByteArray):∀ (ls:List Lt) (G:Gr),G.names.Nodup→gSum (ls.foldl (stepG p) G) ≤ gSum G + ls.length∧(ls.foldl (stepG p) G).names.Nodup
 | [],G,h => ⟨Nat.le_refl _,h⟩
 | l :: r,G,h => by
  have h1:(pushG G p l.p).names.Nodup:=by rw [pushG_names];exact h
  obtain ⟨h2,h3⟩:=sum_fold p r (stepG p G l) (addG_nodup h1 _)
  refine ⟨?_,h3⟩
  have h4:=sum_pushG G h p l.p
  have h5:gSum (stepG p G l) = ((pushG G p l.p).map (fun x => x.2.length)).sum:=sum_addG _ _
  rw [List.foldl_cons,List.length_cons]
  unfold gSum at *
  omega
theorem sum_rules:∀ (rs:List Ru) (G:Gr),G.names.Nodup→gSum (rs.foldl drawR G) ≤ gSum G + (rs.flatMap Ru.nE).length
 | [],G,h => Nat.le_refl _
 | r :: l,G,h => by
  obtain ⟨h2,h3⟩:=sum_fold r.p (r.b.filter Lt.isA) (addG G r.p) (addG_nodup h _)
  have h4:=sum_rules l (drawR G r) h3
  have h5:gSum (addG G r.p) = gSum G:=sum_addG _ _
  have h6:gSum (drawR G r) ≤ gSum (addG G r.p) + (r.b.filter Lt.isA).length:=h2
  have h7:(Ru.nE r).length = (r.b.filter Lt.isA).length:=by unfold Ru.nE;rw [List.length_map]
  rw [List.foldl_cons,List.flatMap_cons,List.length_append,h7]
  omega
theorem sum_draw {rs:List Ru} (h:Small rs):gSum (drawP rs) ≤ 10000000:=by
 have h1:=sum_rules rs [] List.nodup_nil
 have h2:=h.edges
 have h3:(edgesP rs).length = (rs.flatMap Ru.nE).length:=by
  rw [← edges_pairs rs 0,List.length_map]
  rfl
 have h4:gSum [] = 0:=rfl
 unfold drawP
 omega
end Go.Proofs.YtobabnpllokkaaaGreatDoor
namespace Go.Proofs.YtobabnpllokkaaaGreatDoor
open Go.RowKit Go.WideMaps Go.Maps
structure RJ (w0:World) (fv:Value) (F:List ByteArray) (G:Gr) (B0 C:Nat) (lv:Value) (W:World) (st seen:List ByteArray):Prop where
 inv:ReInv G F st seen
 own:OwnL 1 B0 9 RNm W lv st
 mp:MapE strV W w0.heap.size (setE seen)
 only:Only (fun k => fv.ownBlock = some k∨w0.heap.size ≤ k) w0 W
 blk:∀ k,lv.ownBlock = some k→fv.ownBlock = some k∨w0.heap.size ≤ k
 szs:∀ x,x ∈ st∨x ∈ seen→x.size ≤ 140737488351232
 le:reM G st seen ≤ C
def rjP (w0:World) (fv:Value) (F:List ByteArray) (G:Gr) (B0 C:Nat) (lv:Value) (W:World) (k:Nat):Prop:=∃ st seen,RJ w0 fv F G B0 C lv W st seen∧reM G st seen = k
noncomputable def rjM (w0:World) (fv:Value) (F:List ByteArray) (G:Gr) (B0 C:Nat) (lv:Value) (W:World):Nat:=leastOf (rjP w0 fv F G B0 C lv W)
theorem RJ.m {w0:World} {fv:Value} {F:List ByteArray} {G:Gr} {B0 C:Nat} {lv:Value} {W:World} {st seen:List ByteArray} (h:RJ w0 fv F G B0 C lv W st seen):rjM w0 fv F G B0 C lv W ≤ reM G st seen:=leastOf_le ⟨st,seen,h,rfl⟩
theorem last_at {M:Nat} {w:World} {A:Option Addr} {c:Nat} {st:List ByteArray} {s:ByteArray} (h:SlRep 1 M RNm w (.slice A (st ++ [s]).length c) (st ++ [s])):∃ b off,A = some ⟨b,off,none⟩∧w.cell? ⟨b,off + st.length,none⟩ = some (.string s):=by
 obtain ⟨b,off,hA,h1⟩:=nm_at h (k:=st.length) (by rw [List.length_append,List.length_singleton];omega)
 refine ⟨b,off,hA,?_⟩
 rw [List.getElem_append_right (Nat.le_refl _)] at h1
 simpa using h1
set_option maxHeartbeats 4000000 in
set_option maxRecDepth 100000 in
theorem reachG_any {B mb B0:Nat} {G:Gr} (fv:Value) (F:List ByteArray) (w1 w:World) (h:GrI B w1 mb G) (hF:Fut w1 w) (hf:OwnL 1 B0 9 RNm w fv F) (hB0:B0 ≤ w.heap.size) (hsz:∀ x ∈ F,x.size ≤ 140737488351232) (hsep:∀ k,fv.ownBlock = some k→k < B∨w1.heap.size ≤ k) (hM:F.length + gSum G ≤ 100000000) :
    Calls Tryz.prog 84 #[.map (some mb),fv] w fun e w' => ∃ L,e = .returned (.map (some w.heap.size))∧(∀ x,x ∈ L↔∃ f ∈ F,Rch G f x)∧L.Nodup∧(∀ x ∈ L,x.size ≤ 140737488351232)∧MapE strV w' w.heap.size (setE L)∧Only (fun k => fv.ownBlock = some k∨w.heap.size ≤ k) w w':=by
 obtain ⟨C,hC⟩:∃ C,F.length + gSum G = C:=⟨_,rfl⟩
 have hCl:C ≤ 100000000:=by omega
 have hLk:∀ s,s.size ≤ 140737488351232→∃ v,Nms B w1 v (sucs G s)∧(∀ x ∈ sucs G s,x.size ≤ 140737488351232)∧(∀ k,v.ownBlock = some k→¬ (fv.ownBlock = some k∨w.heap.size ≤ k))∧∀ W',Only (fun k => fv.ownBlock = some k∨w.heap.size ≤ k) w W'→(Instr.lookup tG (.map (some mb)) (.string s) false).run Tryz.prog W' = .ok v W':=fun s hs => by
  have hml:mb < w1.heap.size:=by
   obtain ⟨l,h9⟩:=h.mapE
   exact h9.lt
  have hms:¬ (fv.ownBlock = some mb∨w.heap.size ≤ mb):=by
   have h2:=hF.size
   have h3:=h.ge
   rintro (h9 | h9)
   ·rcases hsep _ h9 with h8 | h8 <;> omega
   ·omega
  obtain ⟨v,g1,g2,g3⟩:=h.lookO (S:=fun k => fv.ownBlock = some k∨w.heap.size ≤ k) hs hms
  refine ⟨v,g1,g2,fun k hk => ?_,fun W' hW => g3 W' ((Only.fut hF).trans hW)⟩
  have h1:=g1.block k hk
  have h2:=hF.size
  rintro (h9 | h9)
  ·rcases hsep _ h9 with h8 | h8 <;> omega
  ·omega
 have J0:RJ w fv F G B0 C fv (w.alloc (.map #[] 0)) F []:=⟨ReInv.start G F,hf.fut RNm.stays (Fut.alloc w _),MapE.new (kv:=strV) w,Only.fut (Fut.alloc w _),fun k hk => .inl hk,fun x hx => by
  rcases hx with hx | hx
  ·exact hsz x hx
  ·exact (nomatch hx),by rw [reM_start];unfold gSum at hC;omega⟩
 have HJ0:=Lib.hid J0
 have HLk:=Lib.hid hLk
 have HF:=Lib.hid hF
 have HfB:=Lib.hid hf.block
 have HB0:=Lib.hid hB0
 clear J0 hLk h hF hsz hsep hM hC
 obtain ⟨A0,c0,rfl,_,_⟩:=hf.rep.form
 clear hf
 obtain ⟨fv,hfv⟩:∃ v,Value.slice A0 F.length c0 = v:=⟨_,rfl⟩
 rw [hfv] at HJ0 HLk HfB
 replace hfv:=Lib.hid hfv
 have hmm:=@run_makeMap Tryz.prog
 go_enter Tryz.func84,Tryz.ntmps84
 go_wp2_with fail
 clear hmm
 go_loopw [1,6,7,8] (fun lv _ _ _ W => ∃ st seen,Hid (RJ w fv F G B0 C lv W st seen)) (fun lv _ _ _ W => rjM w fv F G B0 C lv W)
 case atStart => exact ⟨F,[],by rw [hfv.out];exact HJ0⟩
 case round =>
  clear HJ0
  obtain ⟨st0,seen0,hJ0⟩:=hrel
  obtain ⟨wq,rfl⟩:∃ x,x = wr:=⟨_,rfl⟩
  obtain ⟨st,seen,hJ,hm⟩:=leastOf_spec (P:=rjP w fv F G B0 C u1 wq) ⟨_,st0,seen0,hJ0.out,rfl⟩
  clear hJ0
  have hm':=Lib.hid hm
  have HJ:=Lib.hid hJ
  obtain ⟨Au,cu,rfl,hu1,hu2⟩:=hJ.own.rep.form
  clear hm hJ
  rcases List.eq_nil_or_concat st with e9 | ⟨st',s,e9⟩
  ·subst e9
   obtain ⟨a1,a2,a3,a4,a5,a6,a7⟩:=HJ.out
   have H1:=Lib.hid (And.intro a1.done (And.intro a1.nd (And.intro (fun x hx => a6 x (.inr hx)) (And.intro a3 a4))))
   clear a1 a2 a3 a4 a5 a6 a7 HJ hm'
   go_wp2
   go_ret
   obtain ⟨g1,g2,g3,g4,g5⟩:=H1.out
   exact ⟨seen,rfl,g1,g2,g3,g4,by rw [hfv.out];exact g5⟩
  ·rw [List.concat_eq_append] at e9
   subst e9
   obtain ⟨st,hst9⟩:∃ l,l = st':=⟨_,rfl⟩
   subst hst9
   have hln:(st ++ [s]).length = st.length + 1:=by simp
   obtain ⟨b,off,rfl,u0⟩:=last_at HJ.out.own.rep
   have hsz:=HJ.out.szs s (.inl (by simp))
   have hlk:=set_look HJ.out.mp (fun x hx => HJ.out.szs x (.inr hx)) hsz
   obtain ⟨n,hn⟩:∃ n,(st ++ [s]).length = n:=⟨_,rfl⟩
   rw [hn] at hln hu1 hm' ⊢
   have hstC:n ≤ C:=by
    have h1:=HJ.out.le
    unfold reM at h1
    omega
   have e1:(n:Int) > 0:=by omega
   have e2:IntKind.i64.wrap ((n:Int) - 1) = (st.length:Int):=by rw [IntKind.wrap_i64];omega
   have e3:(0:Int) ≤ st.length∧(st.length:Int) < n:=by omega
   have e4:(st.length:Int) ≤ (cu:Int):=by omega
   have e5:st.length ≤ cu:=by omega
   have hcl:cu ≤ 9223372036854775807:=by unfold maxLen at hu2;omega
   have hspos:0 < (st ++ [s]).length:=by rw [hn];omega
   have htk:(st ++ [s]).take st.length = st:=List.take_left' rfl
   have F1:=Fut.alloc wq (.cells #[] 103)
   have hOn:Nms B0 (wq.alloc (.cells #[] 103)) (.slice (some ⟨b,off,none⟩) st.length cu) st:=by
    have h9:=OwnL.takeN (a:=st.length) (HJ.out.own.fut RNm.stays F1) (by rw [hn];omega) hspos
    rwa [htk] at h9
   have HOn:=Lib.hid hOn
   have F1h:=Lib.hid F1
   clear F1 hOn htk hspos
   by_cases hs:s ∈ seen
   ·rw [decide_eq_true hs] at hlk
    have HJ2:=Lib.hid (show RJ w fv F G B0 C (.slice (some ⟨b,off,none⟩) st.length cu) (wq.alloc (.cells #[] 103)) st seen from ⟨HJ.out.inv.skip hs,HOn.out,HJ.out.mp.fut F1h.out,HJ.out.only.trans (Only.fut F1h.out),fun k hk => HJ.out.blk k hk,fun x hx => HJ.out.szs x (hx.imp (List.mem_append_left _) id),Nat.le_trans (Nat.le_of_lt reM_skip) HJ.out.le⟩)
    have hdec:=Lib.hid (show reM G st seen < reM G (st ++ [s]) seen from reM_skip)
    clear HJ hs
    go_wp2
    go_roundw
    case rel => exact ⟨st,seen,HJ2⟩
    case measure => exact Nat.lt_of_le_of_lt HJ2.out.m (by rw [hm'.out] at hdec;exact hdec.out)
   ·rw [decide_eq_false hs] at hlk
    obtain ⟨w4,hr4,hm4,hg4⟩:=set_add (HJ.out.mp.fut F1h.out) (fun x hx => HJ.out.szs x (.inr hx)) hsz
    have hadd:addF seen s = seen ++ [s]:=if_neg hs
    rw [hadd] at hm4
    have O4:Only (fun k => k = w.heap.size) (wq.alloc (.cells #[] 103)) w4:=Only.grown hg4 fun k hk => (Option.some.inj hk).symm
    have hbs:=HOn.out.typed b rfl
    have hbm:w.heap.size ≠ b:=by
     obtain ⟨arr,h9⟩:=hbs
     exact map_ne (HJ.out.mp.fut F1h.out) h9
    have hOn4:Nms B0 w4 (.slice (some ⟨b,off,none⟩) st.length cu) st:=HOn.out.only (fun _ _ h => h) O4 (fun k hk e => by
     have hk':b = k:=Option.some.inj hk
     exact hbm (e.symm.trans hk'.symm))
    have OW:Only (fun k => fv.ownBlock = some k∨w.heap.size ≤ k) w w4:=(HJ.out.only.trans (Only.fut F1h.out)).trans (O4.mono fun k _ hk => .inr (by omega))
    obtain ⟨gv,g1,g2,g3,g4⟩:=HLk.out s hsz
    have hl4:=g4 w4 OW
    obtain ⟨Ag,cg,rfl,hg1,hg2⟩:=g1.rep.form
    have hys:SlRep 1 maxLen RNm w4 (.slice Ag (sucs G s).length cg) (sucs G s):=(show Nms B w4 (.slice Ag (sucs G s).length cg) (sucs G s) from (g1.fut RNm.stays HF.out).only (fun _ _ h => h) OW g3).rep
    have hdec:=Lib.hid (show reM G (st ++ sucs G s) (seen ++ [s]) < reM G (st ++ [s]) seen from reM_take hs)
    have hlen:st.length + (sucs G s).length ≤ C:=by
     have h1:=hdec.out
     have h2:=HJ.out.le
     have h3:(st ++ sucs G s).length ≤ reM G (st ++ sucs G s) (seen ++ [s]):=Nat.le_add_right _ _
     rw [List.length_append] at h3
     omega
    have hB4:B0 ≤ w4.heap.size:=Nat.le_trans HB0.out OW.size
    have HOn4:=Lib.hid hOn4
    have Hys:=Lib.hid hys
    have OWh:=Lib.hid OW
    have Hm4:=Lib.hid hm4
    have HI2:=Lib.hid (And.intro (HJ.out.inv.take hs) (And.intro HJ.out.blk (And.intro (fun x (hx:x ∈ st ++ sucs G s∨x ∈ seen ++ [s]) => show x.size ≤ 140737488351232 from by
     rcases hx with hx | hx
     ·rcases List.mem_append.1 hx with q | q
      ·exact HJ.out.szs x (.inl (List.mem_append_left _ q))
      ·exact g2 x q
     ·rcases List.mem_append.1 hx with q | q
      ·exact HJ.out.szs x (.inr q)
      ·rw [List.mem_singleton] at q;subst q;exact hsz) HJ.out.le)))
    have hbm':=Lib.hid hbm
    clear hOn4 hys OW hm4 hg4 O4 hbs hbm g1 g2 g3 g4 HJ hs HOn
    go_wp2_with (first | (at_builtin;refine wpList_append_LB (R:=RNm) (B:=B0) (M:=maxLen) (xs:=st) (ys:=sucs G s) (e:=9) (by go_simp) _ _ tVl' rfl Tryz.underlying76 (.string ⟨#[]⟩) 16 infoNm rfl (by decide) RNm.one RNm.keeps rfl rfl HOn4.out Hys.out ?l3 ?m3 ?b3 ?k3))
    case l3 => unfold maxLen;omega
    case m3 => omega
    case b3 => exact hB4
    case k3 =>
    intro v' w' o' g' sn'
    have O5:Only (fun k => k = b) w4 w':=Only.grown g' fun k hk => (Option.some.inj hk).symm
    have hbb:=HI2.out.2.1 b rfl
    have hws:=OWh.out.size
    have HJ2:=Lib.hid (show RJ w fv F G B0 C v' w' (st ++ sucs G s) (seen ++ [s]) from ⟨HI2.out.1,o',Hm4.out.kept (O5.block _ Hm4.out.lt hbm'.out),OWh.out.trans (O5.mono fun k _ hk => by rw [hk];exact hbb),fun k hk => by
     rcases sn' with e | e
     ·rw [e] at hk
      exact HI2.out.2.1 k hk
     ·have:=e k hk
      exact .inr (by omega),HI2.out.2.2.1,Nat.le_trans (Nat.le_of_lt hdec.out) HI2.out.2.2.2⟩)
    clear o' g' sn' O5 hbb hws HI2 Hm4 OWh HOn4 Hys hl4 hr4
    go_wp2
    go_roundw
    case rel => exact ⟨_,_,HJ2⟩
    case measure => exact Nat.lt_of_le_of_lt HJ2.out.m (by rw [hm'.out] at hdec;exact hdec.out)
end Go.Proofs.YtobabnpllokkaaaGreatDoor
namespace Go.Proofs.YtobabnpllokkaaaGreatDoor.Gr
open Go.RowKit
def Fut (w w':World):Prop:=∃ (q:Nat) (os:Array Obj),w' = Go.Sort.grow (w.drewN q) os
theorem Fut.refl (w:World):Fut w w:=⟨0,#[],by simp [World.drewN,Go.Sort.grow]⟩
inductive Sp where
 | det (c:Value)
 | rel (S:Value→World→Prop)
def Sp.holds:Sp→Value→World→Prop
 | .det c,v,_ => v = c
 | .rel S,v,w => S v w
def givesUpon (P:Program) (s:Sp) (w:World):Result Next→Prop
 | .ok (.value v) w' => Fut w w'∧s.holds v w'
 | .ok .skip w' => Fut w w'∧s.holds undef w'
 | .ok (.enter f args) w' => Calls P f args w' (fun e w'' => ∃ v,e = .returned v∧Fut w w''∧s.holds v w'')
 | _ => False
def gives (P:Program) (o:Oper) (a:Act) (s:Sp) (w:World):Prop:=givesUpon P s w ((execOp a.eval o).run P w)
def givesG (P:Program) (ops:Array Oper) (o:Oper) (a:Act) (s:Sp) (w:World):Prop :=
 if Region.wanted o (yielded ops a.tmps) = true then gives P o a s w else s.holds undef w
def dep (o:Oper) (k:Nat):Bool:=o.after.any fun e => Region.binds .any e && e.on == k
def lexAct (o:Oper) (w:World) (K:Act→Prop):Nat→List (Option Tmp × Sp)→Act→Prop
 | _,[],a => K a
 | k,(d,.det c) :: r,a => lexAct o w K (k + 1) r (a.put d c)
 | k,(d,.rel S) :: r,a => ∀ v,(dep o k = true→S v w)→lexAct o w K (k + 1) r (a.put d v)
def lexFin (w:World) (K:Act→Prop):List (Option Tmp × Sp)→Act→Prop
 | [],a => K a
 | (d,.det c) :: r,a => lexFin w K r (a.put d c)
 | (d,.rel S) :: r,a => ∀ v,S v w→lexFin w K r (a.put d v)
def putAll (v:Nat→Value):Nat→List (Option Tmp × Sp)→Act→Act
 | _,[],a => a
 | k,(d,.det c) :: r,a => putAll v (k + 1) r (a.put d c)
 | k,(d,.rel _) :: r,a => putAll v (k + 1) r (a.put d (v k))
def dstAt (ops:Array Oper) (k:Nat):Option Tmp:=(ops[k]?).bind (·.dst)
def graphB (ops:Array Oper) (n:Nat):Bool :=
 Region.noSelect ops && decide (n ≤ ops.size) &&
 (List.range n).all fun i => match ops[i]? with
  | none => false
  | some o =>
   (o.after.all fun e => !Region.binds .any e || decide (e.on < i)) &&
   (match o.dst with
    | none => true
    | some d => (List.range i).all fun k => dstAt ops k != some d) &&
   ((o.looksAt ops).all fun t => (List.range n).all fun k => dstAt ops k != some t || (if k < i then dep o k else k == i || (match ops[k]? with | some ok => dep ok i | none => false)))
structure GInv (ops:Array Oper) (n:Nat) (sp:Nat→Sp) (a0:Act) (w0:World) (vs:Nat→Value) (listed:Array Bool) (a:Act) (w:World):Prop where
 size:a.tmps.size = a0.tmps.size
 defers:a.defers = a0.defers
 fut:Fut w0 w
 free:∀ t,(∀ k,k < n→listed.getD k false = true→dstAt ops k ≠ some t)→a.tmps[t]? = a0.tmps[t]?
 held:∀ k,k < n→listed.getD k false = true→(sp k).holds (vs k) w
 slot:∀ k d,k < n→listed.getD k false = true→dstAt ops k = some d→a.tmps[d]? = some (vs k)
 lsize:listed.size = ops.size
 closed:∀ j oj,ops[j]? = some oj→listed.getD j false = true→∀ e ∈ oj.after,Region.binds .any e = true→listed.getD e.on false = true
 tail:∀ t,n ≤ t→t < ops.size→listed.getD t true = false
section
variable {P:Program} {ops:Array Oper} {n:Nat} {sp:Nat→Sp} {a0:Act} {w0:World} {vs:Nat→Value} {listed:Array Bool} {a:Act} {w:World}
end
def unl (listed:Array Bool):Nat→Nat
 | 0 => 0
 | n + 1 => unl listed n + (if listed.getD n false = true then 0 else 1)
def headDone (n m:Nat):Array Bool:=((List.range m).map fun k => decide (k < n)).toArray
def sinkB (ops:Array Oper) (n:Nat):Bool :=
 decide (n = ops.size) || (Region.sinkB .any ops n && Region.chainB .any ops n)
def tailB (ops:Array Oper) (n:Nat):Bool:=sinkB ops n && Region.seqB .any ops (ops.size - n) n (headDone n ops.size)
def Facts (known:List (Nat × (World→Prop))) (o:Oper) (w:World):Prop:=∀ kF ∈ known,dep o kF.1 = true→kF.2 w
def AllFacts:List (Nat × (World→Prop))→World→Prop
 | [],_ => True
 | (_,F) :: r,w => F w∧AllFacts r w
def Run (P:Program) (ops:Array Oper) (w0:World) (K:Act→World→Prop):Nat→List Oper→List Sp→Act→List (Nat × (World→Prop))→Prop
 | _,[],_,a,known => ∀ w,Fut w0 w→AllFacts known w→K a w
 | i,o :: r,.det c :: sps,a,known => (∀ w,Fut w0 w→Facts known o w→givesG P ops o a (.det c) w)∧Run P ops w0 K (i + 1) r sps (a.put o.dst c) known
 | i,o :: r,.rel S :: sps,a,known => (∀ v w w',Fut w w'→S v w→S v w')∧(∀ w,Fut w0 w→Facts known o w→givesG P ops o a (.rel S) w) ∧
     ∀ v,Run P ops w0 K (i + 1) r sps (a.put o.dst v) (known ++ [(i,S v)])
 | _,_ :: _,[],_,_ => False
inductive Sh where
 | d
 | r (S:Value→World→Prop)
def Exs (K:List Sp→Prop):List Sh→Prop
 | [] => K []
 | .d :: sh => ∃ c,Exs (fun l => K (.det c :: l)) sh
 | .r S :: sh => Exs (fun l => K (.rel S :: l)) sh
def knownOf (v:Nat→Value):Nat→List (Option Tmp × Sp)→List (Nat × (World→Prop))
 | _,[] => []
 | k,(_,.det _) :: r => knownOf v (k + 1) r
 | k,(_,.rel S) :: r => (k,S (v k)) :: knownOf v (k + 1) r
section
variable {P:Program} {ops:Array Oper} {w0:World} {K:Act→World→Prop} {i:Nat} {o:Oper} {r:List Oper} {sps:List Sp} {a:Act} {known:List (Nat × (World→Prop))}
end
end Go.Proofs.YtobabnpllokkaaaGreatDoor.Gr
namespace Go.Proofs
open Go.Shelf
def Tryz.sortS_ren:Go.Shelf.Ren:=⟨fun | 6 => 200 | 15 => 255 | 14 => 254 | 28 => 288 | 29 => 289 | 20 => 280 | 21 => 281 | 22 => 282 | 23 => 283 | 24 => 284 | 25 => 285 | 26 => 286 | 27 => 287 | 46 => 314 | 47 => 315 | 48 => 316 | 49 => 317 | 50 => 318 | 57 => 340 | n => n,fun | 22 => 76 | 24 => 9 | 25 => 141 | 3 => 3 | 39 => 362 | 0 => 0 | 53 => 253 | 55 => 396 | 4 => 4 | 46 => 389 | 45 => 388 | 50 => 153 | 5 => 5 | 9 => 9 | 66 => 419 | 70 => 423 | 76 => 440 | 77 => 441 | n => n,fun | n => n⟩
theorem Tryz.sortS:Go.Proofs.SlLaysF.n6 Tryz.prog Tryz.sortS_ren:={
 mixed:=by kernel_rfl
 f6:=⟨Tryz.f200.name,by decide,Tryz.func200.trans (congrArg some (by kernel_rfl))⟩
 f14:=⟨Tryz.f254.name,by decide,Tryz.func254.trans (congrArg some (by kernel_rfl))⟩
 f15:=Tryz.func255.trans (congrArg some (by kernel_rfl))
 f20:=⟨Tryz.f280.name,by decide,Tryz.func280.trans (congrArg some (by kernel_rfl))⟩
 f21:=⟨Tryz.f281.name,by decide,Tryz.func281.trans (congrArg some (by kernel_rfl))⟩
 f22:=⟨Tryz.f282.name,by decide,Tryz.func282.trans (congrArg some (by kernel_rfl))⟩
 f23:=⟨Tryz.f283.name,by decide,Tryz.func283.trans (congrArg some (by kernel_rfl))⟩
 f24:=⟨Tryz.f284.name,by decide,Tryz.func284.trans (congrArg some (by kernel_rfl))⟩
 f25:=⟨Tryz.f285.name,by decide,Tryz.func285.trans (congrArg some (by kernel_rfl))⟩
 f26:=⟨Tryz.f286.name,by decide,Tryz.func286.trans (congrArg some (by kernel_rfl))⟩
 f27:=⟨Tryz.f287.name,by decide,Tryz.func287.trans (congrArg some (by kernel_rfl))⟩
 f28:=Tryz.func288.trans (congrArg some (by kernel_rfl))
 f29:=Tryz.func289.trans (congrArg some (by kernel_rfl))
 f46:=⟨Tryz.f314.name,by decide,Tryz.func314.trans (congrArg some (by kernel_rfl))⟩
 f47:=Tryz.func315.trans (congrArg some (by kernel_rfl))
 f48:=Tryz.func316.trans (congrArg some (by kernel_rfl))
 f49:=⟨Tryz.f317.name,by decide,Tryz.func317.trans (congrArg some (by kernel_rfl))⟩
 f50:=⟨Tryz.f318.name,by decide,Tryz.func318.trans (congrArg some (by kernel_rfl))⟩
 f57:=⟨Tryz.f340.name,by decide,Tryz.func340.trans (congrArg some (by kernel_rfl))⟩
 t0:=Tryz.underlying0
 a0:=Tryz.isAgg0
 z0:=Tryz.sizeOf0
 v0:=Tryz.zeroValue0
 t3:=Tryz.underlying3
 a3:=Tryz.isAgg3
 z3:=Tryz.sizeOf3
 v3:=Tryz.zeroValue3
 t4:=Tryz.underlying4
 a4:=Tryz.isAgg4
 z4:=Tryz.sizeOf4
 v4:=Tryz.zeroValue4
 t5:=Tryz.underlying5
 a5:=Tryz.isAgg5
 z5:=Tryz.sizeOf5
 v5:=Tryz.zeroValue5
 t9:=Tryz.underlying9
 a9:=Tryz.isAgg9
 z9:=Tryz.sizeOf9
 v9:=Tryz.zeroValue9
 t22:=Tryz.underlying76
 a22:=Tryz.isAgg76
 z22:=Tryz.sizeOf76
 v22:=Tryz.zeroValue76
 a24:=Tryz.isAgg9
 z24:=Tryz.sizeOf9
 t25:=Tryz.underlying141
 a25:=Tryz.isAgg141
 z25:=Tryz.sizeOf141
 v25:=Tryz.zeroValue141
 t39:=Tryz.underlying362
 a39:=Tryz.isAgg362
 z39:=Tryz.sizeOf362
 v39:=Tryz.zeroValue362
 t45:=Tryz.underlying388
 a45:=Tryz.isAgg388
 z45:=Tryz.sizeOf388
 v45:=Tryz.zeroValue388
 t46:=Tryz.underlying389
 a46:=Tryz.isAgg389
 z46:=Tryz.sizeOf389
 v46:=Tryz.zeroValue389
 t50:=Tryz.underlying153
 a50:=Tryz.isAgg153
 z50:=Tryz.sizeOf153
 v50:=Tryz.zeroValue153
 t53:=Tryz.underlying253
 a53:=Tryz.isAgg253
 z53:=Tryz.sizeOf253
 v53:=Tryz.zeroValue253
 t55:=Tryz.underlying396
 a55:=Tryz.isAgg396
 z55:=Tryz.sizeOf396
 v55:=Tryz.zeroValue396
 t66:=Tryz.underlying419
 a66:=Tryz.isAgg419
 z66:=Tryz.sizeOf419
 v66:=Tryz.zeroValue419
 t70:=Tryz.underlying423
 a70:=Tryz.isAgg423
 z70:=Tryz.sizeOf423
 v70:=Tryz.zeroValue423
 t76:=Tryz.underlying440
 a76:=Tryz.isAgg440
 z76:=Tryz.sizeOf440
 v76:=Tryz.zeroValue440
 t77:=Tryz.underlying441
 a77:=Tryz.isAgg441
 z77:=Tryz.sizeOf441
 v77:=Tryz.zeroValue441 }
end Go.Proofs
namespace Go.Proofs.YtobabnpllokkaaaGreatDoor
open Go.RowKit Go.Sort Go.Shelf
section
variable {α:Type} [Inhabited α]
theorem below_sortN (enc:α→Value) (w:World) (blk off m:Nat) (d:Array α) (os:Array Obj) (B:Nat) (hB:B ≤ blk) (hw:B ≤ w.heap.size):Go.RowKit.Below B w (sortWorld enc w blk off m d os):=by
 refine ⟨rfl,rfl,rfl,?_,fun j hj => ?_⟩
 ·simp [sortWorld,putRow,mapBlock,Sort.ahead,grow]
 ·have hne:blk ≠ j:=by omega
  unfold sortWorld
  rw [heap_grow_old _ _ (by simp [putRow,mapBlock,Sort.ahead];omega)]
  simp [putRow,mapBlock,Sort.ahead,Array.getElem?_modify,hne]
theorem fut_sortN {w0 w:World} (h:Fut w0 w) (enc:α→Value) (blk off m:Nat) (d:Array α) (os:Array Obj) (hb:w0.heap.size ≤ blk):Fut w0 (sortWorld enc w blk off m d os) :=
 Below.trans h (below_sortN enc w blk off m d os _ hb h.size)
theorem perm_of_inN {d d':Array α} (h:PermIn 0 d.size d d'):d'.toList.Perm d.toList:=by
 obtain ⟨h1,_,h3⟩:=h
 rw [Array.extract_size] at h3
 rw [← h1,Array.extract_size] at h3
 exact h3
theorem sorted_of_inN {β:Type} {c:β→β→Int} {f:α→β} {n:Nat} {d':Array α} (h:SortedIn (ltOf fun x y => c (f x) (f y)) 0 n d') (hn:d'.size = n):Sorted c (d'.toList.map f):=by
 unfold Sorted
 rw [List.pairwise_iff_getElem]
 intro i j hi hj hij
 simp only [List.length_map,Array.length_toList] at hi hj
 have h1:=h i j (Nat.zero_le _) hij (by omega)
 unfold ltOf at h1
 rw [decide_eq_false_iff_not] at h1
 rw [getElem!_pos d' j hj,getElem!_pos d' i hi] at h1
 simpa using h1
end
theorem sort1_block {α:Type} [Inhabited α] {enc:α→Value} {w:World} {blk m:Nat} {d:Array α} {os:Array Obj} {cur:Array Value} {t:TypeId} {fr:Nat × Nat} (hb:w.heap[blk]? = some (.cells cur t fr)) :
    (sortWorld enc w blk 0 m d os).heap[blk]? = some (.cells (putCells enc 0 d cur) t fr):=by
 have hlt:=lt_of_block hb
 unfold sortWorld putRow
 rw [heap_grow_old _ _ (by simp [mapBlock,Sort.ahead];exact hlt)]
 simp [mapBlock,Sort.ahead,Array.getElem?_modify,hb,onCells]
theorem pull_swoN (c:ByteArray→ByteArray→Int) (h:TotC c):SWO (ltOf fun x y:ByteArray => c x y) where
 irrefl x:=h.swo.irrefl x
 trans x y z:=h.swo.trans x y z
 ntrans x y z:=h.swo.ntrans x y z
instance:Inhabited ByteArray:=⟨⟨#[]⟩⟩
theorem own_sort1 {B:Nat} {e:TypeId} {w:World} {blk cap m:Nat} {os:Array Obj} {ts:List ByteArray} (h:OwnL 1 B e RNm w (.slice (some ⟨blk,0,none⟩) ts.length cap) ts) (d:Array ByteArray) (hd:d.size = ts.length) :
    OwnL 1 B e RNm (sortWorld Value.string w blk 0 m d os) (.slice (some ⟨blk,0,none⟩) ts.length cap) d.toList:=by
 obtain ⟨css,h1,h2,h3,h4⟩:=h
 have hml:d.toList.length = ts.length:=by simp [hd]
 have hfl:(d.toList.map fun s => [Value.string s]).flatten = d.toList.map Value.string:=by
  induction d.toList with
  | nil => rfl
  | cons a r ih => rw [List.map_cons,List.flatten_cons,ih];rfl
 refine ⟨d.toList.map fun s => [.string s],by simp,fun i cs x hi hx => ?_,by rw [hfl];simp,?_⟩
 ·rw [List.getElem?_map,hx,Option.map_some] at hi
  rw [← Option.some.inj hi]
  exact ⟨rfl,rfl⟩
 ·rcases h4 with ⟨h4,_⟩ | ⟨g0,cap0,cur,hv,a2,a3,a4,a5,a6,a7⟩
  ·cases h4
  injection hv with hv1 hv2 hv3
  injection hv1 with hv1
  injection hv1 with hv4 hv5
  subst hv3 hv4
  rw [hml]
  refine .inr ⟨blk,cap,_,rfl,a2,sort1_block a3,a4,a5,by simpa [putCells] using a6,?_⟩
  have hle:ts.length * 1 ≤ cur.size:=by rw [a6];exact Nat.mul_le_mul_right _ a4
  rw [hfl]
  refine List.ext_getElem? fun j => ?_
  rw [List.getElem?_take]
  by_cases hj:j < ts.length * 1
  ·have hjd:j < d.size:=by omega
   have hjc:j < cur.size:=by omega
   rw [if_pos hj,Array.getElem?_toList]
   unfold putCells
   rw [Array.getElem?_mapIdx,Array.getElem?_eq_getElem hjc,Option.map_some,if_pos (by omega),Nat.sub_zero,List.getElem?_map,Array.getElem?_toList,Array.getElem?_eq_getElem hjd,getElem!_pos d j hjd]
   rfl
  ·rw [if_neg hj,List.getElem?_eq_none (by simp;omega)]
set_option maxHeartbeats 1000000 in
theorem sort_nms {P:Program} {ρ:Ren} (L:SlLaysF.n6 P ρ) {e:TypeId} {B:Nat} (g:Nat) (eg:∀ args w,(callFunc g args).run P w = .ok (.enter g args) w) (c:ByteArray→ByteArray→Int) (hT:TotC c)
    (hc:∀ (a b:ByteArray) (W:World),Calls P g #[.string a,.string b] W fun x W' => x = .returned (.int .i64 (c a b))∧W' = W)
    (w1:World) (t:Value) (ts:List ByteArray) (h:OwnL 1 B e RNm w1 t ts) (hne:ts ≠ []) (hlen:ts.length < 4611686018427387904) :
    Calls P (ρ.f 6) #[t,.func (.func g) #[] #[]] w1 fun x w2 => x = .returned (.tuple #[])∧∃ ts':List ByteArray,ts'.Perm ts∧Sorted c ts'∧OwnL 1 B e RNm w2 t ts'∧∀ w,Fut w w1→w.heap.size ≤ B→Fut w w2:=by
 have hB:∃ blk cap,t = .slice (some ⟨blk,0,none⟩) ts.length cap∧B ≤ blk∧blk < w1.heap.size:=by
  obtain ⟨css,h1,h2,h3,h4⟩:=h
  rcases h4 with ⟨_,h5⟩ | ⟨g,cap,cur,rfl,a2,a3,a4,a5,a6,a7⟩
  ·exact absurd (List.length_eq_zero_iff.1 h5) hne
  ·exact ⟨g,cap,rfl,a2,lt_of_block a3⟩
 obtain ⟨blk,cap,rfl,hBb,hlt⟩:=hB
 have hsz:ts.toArray.size = ts.length:=by simp
 have hfz:∀ j,w1.frozen? ⟨blk,j,none⟩ = false:=fun j => by
  obtain ⟨arr,h9⟩:=h.typed blk rfl
  simp [World.frozen?,h9]
 have hH:Go.Sort.Holds Value.string w1 blk 0 ts.toArray:=fun j hj => by
  have hj':j < ts.length:=by simpa using hj
  obtain ⟨b',off,hA,hc9⟩:=nm_at h.rep hj'
  injection hA with hA
  injection hA with q1 q2 _
  subst q1;subst q2
  rw [getElem!_pos ts.toArray j hj]
  exact ⟨by simpa using hc9,hfz _⟩
 have hS:=Any.slices_SortFunc L Value.string (fun _ => rfl) c (pull_swoN c hT) g #[] blk 0 cap ts.toArray w1 eg
  (fun m os dk hdk x y => by
   have h9:=hc x y (sortWorld Value.string w1 blk 0 m dk os)
   rw [Array.append_empty]
   refine h9.mono ?_
   rintro e w' ⟨q1,rfl⟩
   exact ⟨q1,Gr.Fut.refl _⟩) hH hlt (by rw [hsz];exact hlen)
 rw [hsz] at hS
 refine hS.mono ?_
 rintro x w2 ⟨rfl,d',n,os,hp,hs,rfl⟩
 have hperm:=perm_of_inN (hsz ▸ hp)
 have hd'l:d'.size = ts.length:=by have:=hperm.length_eq;simpa using this
 exact ⟨rfl,d'.toList,by simpa using hperm,by simpa using sorted_of_inN (f:=id) hs hd'l,own_sort1 h d' hd'l,fun w hw hwB => fut_sortN hw _ _ _ _ _ _ (Nat.le_trans hwB hBb)⟩
theorem sortN_any {B:Nat} (w1:World) (t:Value) (ts:List ByteArray) (h:OwnL 1 B 9 RNm w1 t ts) (hne:ts ≠ []) (hlen:ts.length < 4611686018427387904) :
    Calls Tryz.prog 200 #[t,.func (.func 85) #[] #[]] w1 fun x w2 => x = .returned (.tuple #[])∧∃ ts':List ByteArray,ts'.Perm ts∧Sorted cmpS ts'∧OwnL 1 B 9 RNm w2 t ts'∧∀ w,Fut w w1→w.heap.size ≤ B→Fut w w2:=by
 have eg:∀ args w,(callFunc 85 args).run Tryz.prog w = .ok (.enter 85 args) w:=enters_of Tryz.func85 (by kernel_rfl) rfl
 have hn:=sort_nms Tryz.sortS 85 eg cmpS totS (fun a b W => (Tryz.strings_Compare a b W).mono fun e w' ⟨q1,q2⟩ => ⟨q1,q2⟩) w1 t ts h hne hlen
 change Calls Tryz.prog 200 _ _ _ at hn
 exact hn
theorem up_of_sorted:∀ {l:List ByteArray},Sorted cmpS l→l.Nodup→Up cmpS l
 | [],_,_ => List.Pairwise.nil
 | a :: l,h,hn => by
  have h':=List.pairwise_cons.1 h
  have hn':=List.nodup_cons.1 hn
  refine List.pairwise_cons.2 ⟨fun b hb => ?_,up_of_sorted h'.2 hn'.2⟩
  have h1:=h'.1 b hb
  have h2:a ≠ b:=fun e => hn'.1 (e ▸ hb)
  have h3:cmpS a b ≠ 0:=fun e => h2 ((totS.eq0 a b).1 e)
  have h4:=totS.neg a b
  omega
end Go.Proofs.YtobabnpllokkaaaGreatDoor
namespace Go.Proofs.YtobabnpllokkaaaGreatDoor
open Go.RowKit Go.Maps Go.WideShapes Go.Shelf
open Go.WideElems (Fit rd rg pl rd_val rg_of elemAt)
theorem collect_set {w:World} {mb:Nat} {l:List (ByteArray × Value)} (h:MapE strV w mb l) (hk:∀ q ∈ l,q.1.size ≤ maxLen) (hb:l.length ≤ 8796093022207) :
    Calls Tryz.prog 199 #[.func (.func 201) #[] #[.pointer (some ⟨w.heap.size,0,none⟩)]] (w.alloc (.cells #[.map (some mb)] tSt))
     fun e w' => ∃ v N,e = .returned v∧N.Perm (l.map (·.1))∧OwnL 1 (w.heap.size + 1) 9 RNm w' v N∧Fut (w.alloc (.cells #[.map (some mb)] tSt)) w':=by
 have hnd:=h.nodup
 obtain ⟨es,clock,hbk,hst,hes⟩:=h
 have hlen:es.size = l.length:=by
  have:=congrArg List.length hes
  simpa using this
 have hkey:∀ x ∈ es.toList,∃ q ∈ l,x.key = strV q.1:=fun x hx => by
  have hm:(x.key,x.val) ∈ es.toList.map (fun e => (e.key,e.val)):=List.mem_map.2 ⟨x,hx,rfl⟩
  rw [hes] at hm
  obtain ⟨q,hq,e⟩:=List.mem_map.1 hm
  injection e with e1 _
  exact ⟨q,hq,e1.symm⟩
 have hrd:∀ x ∈ es.toList,∀ q ∈ l,x.key = strV q.1→rd Tryz.prog 9 (fun _ => some ((DataW.nil:DataW Unit),[])) x = some (.string q.1.data.toList,.nil):=fun x _ q hq e => by
  unfold rd
  rw [e,keyOf_str (hk q hq)];rfl
 have F:Fit Tryz.prog 9 (fun _ => some ((DataW.nil:DataW Unit),[])) es clock:=⟨by unfold maxLen;omega,hst,fun x hx => by
  obtain ⟨q,hq,e⟩:=hkey x hx
  exact ⟨_,hrd x hx q hq e⟩⟩
 have hown:=World.ownsMap_of_fit (R:=fun _ => some ((DataW.nil:DataW Unit),[])) hbk F (fun _ _ _ h => h)
 have hsz:Maps.size (DataW.map ((es.toList.map (rg Tryz.prog 9 (fun _ => some ((DataW.nil:DataW Unit),[])))).foldr DataW.insert [])) = es.size:=by simp [Maps.size,length_read]
 have hperm:(strKeys (DataW.map ((es.toList.map (rg Tryz.prog 9 (fun _ => some ((DataW.nil:DataW Unit),[])))).foldr DataW.insert []))).Perm ((l.map (·.1)).map (·.data.toList)):=by
  show (((es.toList.map (rg Tryz.prog 9 (fun _ => some ((DataW.nil:DataW Unit),[])))).foldr DataW.insert []).map fun p => strOf p.1).Perm _
  refine ((sorted_perm _).map _).trans ?_
  rw [List.map_map,List.map_map]
  have e2:∀ (xs:List MapEntry) (ql:List (ByteArray × Value)),(∀ x ∈ xs,x ∈ es.toList)→(∀ q ∈ ql,q ∈ l)→xs.map (fun e => (e.key,e.val)) = ql.map (fun p => (strV p.1,p.2)) →
      xs.map ((fun p => strOf p.1) ∘ rg Tryz.prog 9 (fun _ => some ((DataW.nil:DataW Unit),[]))) = ql.map ((fun x => x.data.toList) ∘ fun x => x.1):=by
   intro xs
   induction xs with
   | nil => intro ql _ _ e;cases ql with
    | nil => rfl
    | cons a r => simp at e
   | cons x xs ih => intro ql h1 h2 e;cases ql with
    | nil => simp at e
    | cons q ql =>
     simp only [List.map_cons,List.cons.injEq,Prod.mk.injEq] at e
     rw [List.map_cons,List.map_cons,ih ql (fun y hy => h1 y (List.mem_cons_of_mem _ hy)) (fun y hy => h2 y (List.mem_cons_of_mem _ hy)) e.2]
     have h9:=rg_of (hrd x (h1 x List.mem_cons_self) q (h2 q List.mem_cons_self) e.1.1)
     simp only [Function.comp,h9,strOf]
  rw [e2 es.toList l (fun x hx => hx) (fun q hq => hq) hes]
 have hbl:=hown.lt
 have hseq:SeqGives Fence.wide 3 Tryz.prog 201 #[.pointer (some ⟨w.heap.size,0,none⟩)] encStr (fun ss => ss.Perm (strKeys (DataW.map ((es.toList.map (rg Tryz.prog 9 (fun _ => some ((DataW.nil:DataW Unit),[])))).foldr DataW.insert [])))) (Maps.size (DataW.map ((es.toList.map (rg Tryz.prog 9 (fun _ => some ((DataW.nil:DataW Unit),[])))).foldr DataW.insert []))) (w.alloc (.cells #[.map (some mb)] tSt)) :=
  AnyZ.keys_gives (ρ:=Tryz.keys83_ren) { Tryz.keys83 with } Fence.wide _ trivial rfl (by omega) w.heap.size mb _ _ _ (by simp) (by simp) (by
   obtain ⟨es',clock',hb',Ft,hs',hD⟩:=hown
   exact ⟨es',clock',(Below.heap_alloc _ _ mb hbl).trans hb',Ft,hs',hD⟩)
 refine (callsIn_wide.1 (AnyZ.collect_in (ρ:=Tryz.sorted98_ren) { Tryz.sorted98 with } Fence.wide 5 trivial trivial rfl (by omega) 201 #[.pointer (some ⟨w.heap.size,0,none⟩)] trivial (enters_of Tryz.func201 (by kernel_rfl) rfl) _ _ (by rw [hsz];unfold maxLen;omega) (by rw [hsz];omega) _ hseq)).mono ?_
 rintro e w' ⟨v,ss,rfl,hS,hrow,_,hbw⟩
 have hs1:(w.alloc (.cells #[.map (some mb)] tSt)).heap.size = w.heap.size + 1:=by simp
 have ho:=names_of_row rfl hrow
 rw [hs1] at ho
 refine ⟨v,ss.map bytesOf',rfl,?_,ho,hbw⟩
 have h9:=(hS.trans hperm).map bytesOf'
 have h8:((l.map (·.1)).map (·.data.toList)).map bytesOf' = l.map (·.1):=by
  rw [List.map_map]
  conv => rhs;rw [← List.map_id (l.map (·.1))]
  exact List.map_congr_left fun x _ => rfl
 rw [h8] at h9
 exact h9
set_option maxHeartbeats 1000000 in
theorem sortedF_any {w:World} {mb:Nat} {l:List (ByteArray × Value)} (h:MapE strV w mb l) (hne:l ≠ []) (hk:∀ q ∈ l,q.1.size ≤ maxLen) (hb:l.length ≤ 8796093022207) :
    Calls Tryz.prog 82 #[.func (.func 201) #[] #[.pointer (some ⟨w.heap.size,0,none⟩)],.func (.func 85) #[] #[]] (w.alloc (.cells #[.map (some mb)] tSt))
     fun e w' => ∃ v,e = .returned v∧OwnL 1 (w.heap.size + 1) 9 RNm w' v (sortU cmpS (l.map (·.1)))∧Fut (w.alloc (.cells #[.map (some mb)] tSt)) w':=by
 have hnd:=h.nodup
 have HC:=Lib.hid (collect_set h hk hb)
 obtain ⟨w0,hw0⟩:∃ W,w.alloc (.cells #[.map (some mb)] tSt) = W:=⟨_,rfl⟩
 have hz:w0.heap.size = w.heap.size + 1:=by rw [← hw0];simp
 rw [hw0] at HC ⊢
 clear hw0 h hk
 go_enter Tryz.func82,Tryz.ntmps82
 go_wp2_with fail
 refine HC.out.mono ?_
 rintro e w1 ⟨v,N,rfl,hp,ho,f1⟩
 have HS:=Lib.hid (sortN_any (B:=w.heap.size + 1) w1 v N ho (fun e => hne (by rw [e] at hp;have h9:=hp.length_eq;rw [List.length_map] at h9;exact List.length_eq_zero_iff.1 h9.symm)) (by rw [hp.length_eq,List.length_map];omega))
 obtain ⟨A1,c1,rfl,_,_⟩:=ho.rep.form
 have F1:=Lib.hid f1
 clear ho f1 HC
 go_wp2_with fail
 refine HS.out.mono ?_
 rintro e w2 ⟨rfl,ts,hp2,hs2,ho2,hf2⟩
 have HR:=Lib.hid (show OwnL 1 (w.heap.size + 1) 9 RNm w2 (.slice A1 N.length c1) (sortU cmpS (l.map (·.1)))∧Fut w0 w2 from by
  have hnd2:ts.Nodup:=(hp2.trans hp).nodup_iff.2 hnd
  have he:ts = sortU cmpS (l.map (·.1)):=UpOf.eq totS ⟨up_of_sorted hs2 hnd2,fun x => (hp2.trans hp).mem_iff⟩
  rw [← he]
  exact ⟨ho2,hf2 w0 F1.out (by omega)⟩)
 clear ho2 hf2 hs2 hp2
 go_wp2
 go_ret
 exact ⟨_,rfl,HR.out⟩
end Go.Proofs.YtobabnpllokkaaaGreatDoor
namespace Go.Proofs.YtobabnpllokkaaaGreatDoor
open Go.RowKit Go.WideMaps Go.Maps
theorem rch_len {rs:List Ru} (h:Small rs) {p:ByteArray} {L:List ByteArray} (hn:L.Nodup) (hL:∀ x ∈ L,Rch (drawP rs) p x):L.length ≤ 10000001:=by
 have h1:=draw_len h
 have h2:=nodup_le (m:=p :: (drawP rs).names) hn fun x hx => by
  refine (hL x hx).closed (D:=fun x => x ∈ p :: (drawP rs).names) (fun u _ t ht => ?_) List.mem_cons_self
  obtain ⟨e,he,_,rfl⟩:=edge_suc.1 ht
  exact List.mem_cons_of_mem _ (edge_names he).2
 rw [List.length_cons] at h2
 omega
set_option maxHeartbeats 2000000 in
set_option maxRecDepth 100000 in
theorem reachW_any {M:Nat} (A:Option Addr) (c:Nat) (rs:List Ru) (p:ByteArray) (w:World) (h:SlRep 3 M RRu w (.slice A rs.length c) rs) (hM:M ≤ 9223372036854775807) (hS:Small rs) (hp:p.size ≤ 140737488351232) :
    Calls Tryz.prog 22 #[.agg #[.slice A rs.length c],.string p] w fun e w' => ∃ v L,e = .returned v∧ReachOf rs p L∧OwnL 1 w.heap.size 9 RNm w' v L∧Fut w w':=by
 have f0:=Fut.alloc w (.cells #[.slice A rs.length c] 28)
 have HD:=Lib.hid (draw_any A c rs (w.alloc (.cells #[.slice A rs.length c] 28)) (h.fut RRu.stays f0) hM hS)
 have hg:=Lib.hid (sum_draw hS)
 have HL:=Lib.hid (fun L hn hL => rch_len (p:=p) (L:=L) hS hn hL)
 have F0:=Lib.hid f0
 clear h hS f0
 go_enter Tryz.func22,Tryz.ntmps22
 go_wp2_with fail
 refine HD.out.mono ?_
 rintro e w2 ⟨mb,rfl,hG,f2⟩
 have F2:=Lib.hid (F0.out.trans f2)
 have f3:=Fut.alloc w2 (.cells #[.string p] 9)
 have hb3:=heap_alloc_new w2 (.cells #[.string p] 9)
 have hz3:(w2.alloc (.cells #[.string p] 9)).heap.size = w2.heap.size + 1:=by simp
 have hO3:OwnL 1 w2.heap.size 9 RNm (w2.alloc (.cells #[.string p] 9)) (.slice (some ⟨w2.heap.size,0,none⟩) 1 1) [p] :=
  ⟨[[.string p]],rfl,fun i cs x hi hx => by
   match i,hi,hx with
   | 0,hi,hx => injection hi with hi;injection hx with hx;subst hi;subst hx;exact ⟨rfl,rfl⟩
   | i + 1,hi,hx => simp at hx,rfl,.inr ⟨w2.heap.size,1,#[.string p],rfl,Nat.le_refl _,hb3,Nat.le_refl _,by unfold maxLen;omega,rfl,rfl⟩⟩
 have HR:=Lib.hid (reachG_any (.slice (some ⟨w2.heap.size,0,none⟩) 1 1) [p] w2 (w2.alloc (.cells #[.string p] 9)) hG f3 hO3 (by omega) (fun x hx => by rw [List.mem_singleton] at hx;subst hx;exact hp) (fun k hk => .inr (by
  have hk':w2.heap.size = k:=Option.some.inj hk
  omega)) (by have:=hg.out;simp only [List.length_singleton];omega))
 rw [hz3] at HR
 have HF3:=Lib.hid (F2.out.trans f3)
 have hs2:=F2.out.size
 clear hO3 hb3 f3 f2 HD hG
 go_wp2_with fail
 refine HR.out.mono ?_
 rintro e w4 ⟨L,rfl,hL,hn,hsz,hm,hO⟩
 have F4:=Lib.hid (show Fut w w4 from ((Only.fut HF3.out).trans (hO.mono (S':=fun k => w.heap.size ≤ k) fun k _ hk => by
  rcases hk with hk | hk
  ·have hk':w2.heap.size = k:=Option.some.inj hk
   omega
  ·omega)).toFut fun k hk => hk)
 have hpL:p ∈ L:=(hL p).2 ⟨p,List.mem_singleton.2 rfl,.refl p⟩
 have hLr:∀ x,x ∈ L↔Rch (drawP rs) p x:=fun x => (hL x).trans ⟨fun ⟨f,h1,h2⟩ => by rw [List.mem_singleton] at h1;subst h1;exact h2,fun h => ⟨p,List.mem_singleton.2 rfl,h⟩⟩
 have hlen:=HL.out L hn fun x hx => (hLr x).1 hx
 have HS:=Lib.hid (sortedF_any hm (by
  intro e
  have h9:(setE L).map (·.1) = []:=by rw [e];rfl
  rw [setE_keys] at h9
  rw [h9] at hpL
  cases hpL) (setE_ok hsz) (by unfold setE;rw [List.length_map];omega))
 rw [setE_keys] at HS
 have HO:=Lib.hid (show ReachOf rs p (sortU cmpS L) from ⟨(sortU_spec totS L).1,fun x => ((sortU_spec totS L).2 x).trans (hLr x)⟩)
 have HK:=Lib.hid (callsIn_wide.1 (Tryz.maps_Keys_83 (some (w2.heap.size + 1)) w4))
 clear hL hn hsz hm hO hpL hLr HL HR
 generalize sortU cmpS L = R at *
 go_wp2_with fail
 refine HK.out.mono ?_
 rintro e w5 ⟨rfl,rfl⟩
 go_wp2_with fail
 refine HS.out.mono ?_
 rintro e w6 ⟨v,rfl,ho,f6⟩
 have hs4:=F4.out.size
 have H6:=Lib.hid (And.intro (ho.base (show w.heap.size ≤ w4.heap.size + 1 by omega)) ((F4.out.trans (Fut.alloc w4 _)).trans f6))
 clear ho f6
 go_wp2
 go_ret
 exact ⟨_,R,rfl,HO.out,H6.out.1,H6.out.2⟩
end Go.Proofs.YtobabnpllokkaaaGreatDoor
