/- Parts. -/
import Derived.Test.YtobabnpllokkaaaGreatDoorM09
import Derived.Test.YtobabnpllokkaaaGreatDoorM02
import Derived.Test.YtobabnpllokkaaaGreatDoorM00
set_option linter.unusedSimpArgs false
set_option linter.unusedVariables false
namespace Go.Proofs.YtobabnpllokkaaaGreatDoor
open Go.RowKit Go.WideMaps Go.Maps
abbrev tEq:TypeId:=381
abbrev tRing:TypeId:=376
abbrev tEqs:TypeId:=374
def Eqn.ok (q:Eqn):Prop:=q.l.size ≤ 140737488351232∧q.r.size ≤ 140737488351232∧(∀ v ∈ q.ls,v.size ≤ 140737488351232)∧(∀ v ∈ q.rs,v.size ≤ 140737488351232)
def REq (lv:Value) (w:World) (cs:List Value) (q:Eqn):Prop :=
 ∃ u v,cs = [.string q.l,.string q.r,u,v]∧q.ok∧Nms 0 w u q.ls∧Nms 0 w v q.rs∧(∀ k,u.ownBlock = some k→lv.ownBlock ≠ some k)∧(∀ k,v.ownBlock = some k→lv.ownBlock ≠ some k)
theorem REq.stays {lv:Value}:Stays (REq lv):=fun _ _ _ _ hf ⟨u,v,h1,h2,h3,h4,h5⟩ => ⟨u,v,h1,h2,h3.fut RNm.stays hf,h4.fut RNm.stays hf,h5⟩
theorem REq.keeps {lv:Value}:Keeps tEq (REq lv):=fun w w' row cs x ⟨u,v,h1,h2,h3,h4,h5⟩ hg ht =>
 ⟨u,v,h1,h2,OwnL.kept h3 (fun _ _ h => h) hg ht (by decide),OwnL.kept h4 (fun _ _ h => h) hg ht (by decide),h5⟩
theorem REq.one {lv:Value}:∀ (w:World) cs x,REq lv w cs x→∀ u ∈ cs,u.oneCell' = true:=fun w cs x ⟨a,b,h1,_,h3,h4,_⟩ u hu => by
 obtain ⟨_,_,rfl,_⟩:=h3.rep.form
 obtain ⟨_,_,rfl,_⟩:=h4.rep.form
 subst h1
 simp only [List.mem_cons,List.not_mem_nil,or_false] at hu
 rcases hu with rfl | rfl | rfl | rfl <;> rfl
theorem infoEq:(Tryz.prog.info? 381).map (fun i => (i.zero,i.size,i.bytes)) = some (some (.agg #[.string ⟨#[]⟩,.string ⟨#[]⟩,.slice none 0 0,.slice none 0 0]),4,80):=by kernel_rfl
theorem infoEqs:(Tryz.prog.info? 374).map (·.size) = some 1:=by kernel_rfl
theorem slOne {α:Type} {sz:Nat} {R:World→List Value→α→Prop} (w:World) (cs:List Value) (x:α) (e:TypeId) (hl:cs.length = sz) (h:R (w.alloc (.cells cs.toArray e)) cs x):SlRep sz 1 R (w.alloc (.cells cs.toArray e)) (.slice (some ⟨w.heap.size,0,none⟩) 1 1) [x] :=
 ⟨_,1,rfl,Nat.le_refl _,Nat.le_refl _,fun i y hy => by
  have hi:i = 0:=by
   have:=(List.getElem?_eq_some_iff.1 hy).1
   simp at this;omega
  subst hi
  simp at hy
  subst hy
  refine ⟨w.heap.size,0,cs,rfl,hl,fun j c hj => ?_,h⟩
  rw [show 0 + (0 * sz + j) = j by omega]
  have h0:=heap_alloc_new w (.cells cs.toArray e)
  simp only [World.cell?,h0]
  simpa using hj⟩
theorem FdSt.off {B fb mb:Nat} {w:World} {L:List ByteArray} {lv:Value} (h:FdSt B w fb mb L lv) {k:Nat} {arr:Array Value} {t:TypeId} (hk:w.heap[k]? = some (.cells arr t (0,0))) (h1:t ≠ tFd) (h2:t ≠ 9):¬ ffoot fb mb lv k:=by
 rintro (e | e | e)
 ·rw [e,h.cell] at hk
  injection hk with hk
  injection hk with _ hk
  exact h1 hk.symm
 ·exact map_ne h.map hk e.symm
 ·obtain ⟨arr',h3⟩:=h.list.typed k e
  rw [hk] at h3
  injection h3 with h3
  injection h3 with _ h3
  exact h2 h3
theorem FdSt.lt {B fb mb:Nat} {w:World} {L:List ByteArray} {lv:Value} (h:FdSt B w fb mb L lv):∀ k,ffoot fb mb lv k→k < w.heap.size:=by
 rintro k (rfl | rfl | hk)
 ·exact (Array.getElem?_eq_some_iff.1 h.cell).1
 ·exact h.map.lt
 ·exact (h.list.block _ hk).2
theorem REq.move {B fb mb:Nat} {w w':World} {L:List ByteArray} {lv lv':Value} {cs:List Value} {q:Eqn} (h:FdSt B w fb mb L lv) (hq:REq lv w cs q) (hO:Only (fun k => ffoot fb mb lv k∨w.heap.size ≤ k) w w') (hlv:∀ k,lv'.ownBlock = some k→lv.ownBlock = some k∨w.heap.size ≤ k):REq lv' w' cs q:=by
 obtain ⟨u,v,h1,h2,h3,h4,h5,h6⟩:=hq
 have go:∀ (x:Value) (xs:List ByteArray),Nms 0 w x xs→(∀ k,x.ownBlock = some k→lv.ownBlock ≠ some k)→Nms 0 w' x xs∧(∀ k,x.ownBlock = some k→lv'.ownBlock ≠ some k):=fun x xs g1 g2 => by
  refine ⟨g1.only (fun _ _ h => h) hO fun k hk h9 => ?_,fun k hk h9 => ?_⟩
  ·obtain ⟨arr,g3⟩:=g1.typed k hk
   rcases h9 with (e | e | e) | e
   ·rw [e,h.cell] at g3
    injection g3 with g3
    injection g3 with _ g3
    exact absurd g3 (by decide)
   ·exact map_ne h.map g3 e.symm
   ·exact g2 k hk e
   ·have:=(g1.block k hk).2
    omega
  ·rcases hlv k h9 with e | e
   ·exact g2 k hk e
   ·have:=(g1.block k hk).2
    omega
 obtain ⟨a1,a2⟩:=go u _ h3 h5
 obtain ⟨b1,b2⟩:=go v _ h4 h6
 exact ⟨u,v,h1,h2,a1,b1,a2,b2⟩
theorem eqs_move {B B' fb mb:Nat} {w w':World} {L:List ByteArray} {lv lv' wv:Value} {qs:List Eqn} (h:FdSt B w fb mb L lv) (hq:OwnL 4 B' tEq (REq lv) w wv qs) (hO:Only (fun k => ffoot fb mb lv k∨w.heap.size ≤ k) w w') (hlv:∀ k,lv'.ownBlock = some k→lv.ownBlock = some k∨w.heap.size ≤ k):OwnL 4 B' tEq (REq lv') w' wv qs:=by
 have h1:OwnL 4 B' tEq (fun _ cs x => REq lv w cs x) w wv qs:=hq.imp fun cs x hx => hx
 have h2:OwnL 4 B' tEq (fun _ cs x => REq lv w cs x) w' wv qs:=h1.only (fun _ _ h => h) hO fun k hk h9 => by
  rcases h9 with h9 | h9
  ·obtain ⟨arr,g3⟩:=hq.typed k hk
   exact h.off g3 (by decide) (by decide) h9
  ·have:=(hq.block k hk).2
   omega
 exact h2.imp fun cs x hx => hx.move h hO hlv
theorem eq_at {lv:Value} {M:Nat} {w:World} {A:Option Addr} {n cap:Nat} {xs:List Eqn} (h:SlRep 4 M (REq lv) w (.slice A n cap) xs) {k:Nat} (hk:k < xs.length) :
    ∃ b off Al Ar cl cr,A = some ⟨b,off,none⟩∧REq lv w [.string (xs[k]).l,.string (xs[k]).r,.slice Al (xs[k]).ls.length cl,.slice Ar (xs[k]).rs.length cr] xs[k]∧w.cell? ⟨b,off + k * 4,none⟩ = some (.string (xs[k]).l)∧w.cell? ⟨b,off + k * 4 + 1,none⟩ = some (.string (xs[k]).r)∧w.cell? ⟨b,off + k * 4 + 2,none⟩ = some (.slice Al (xs[k]).ls.length cl)∧w.cell? ⟨b,off + k * 4 + 3,none⟩ = some (.slice Ar (xs[k]).rs.length cr):=by
 obtain ⟨A1,cap1,hv,_,_,h3⟩:=h
 obtain ⟨b,off,cs,hA,hl,hc,u,v,hcs,g1,g2,g3,g4,g5⟩:=h3 k _ (List.getElem?_eq_getElem hk)
 injection hv with hv _ _
 obtain ⟨Al,cl,rfl,_⟩:=g2.rep.form
 obtain ⟨Ar,cr,rfl,_⟩:=g3.rep.form
 subst hcs
 exact ⟨b,off,Al,Ar,cl,cr,hv.trans hA,⟨_,_,rfl,g1,g2,g3,g4,g5⟩,hc 0 _ rfl,hc 1 _ rfl,hc 2 _ rfl,hc 3 _ rfl⟩
def RingI (B:Nat) (w:World) (fb mb rb:Nat) (lv wv:Value) (qs:List Eqn) (W:World) (u:Value) (s:List Eqn × List ByteArray):Prop :=
 ∃ lv1,FdSt B W fb mb s.2 lv1∧OwnL 4 B tEq (REq lv1) W wv qs∧OwnL 4 w.heap.size tEq (REq lv1) W u s.1∧W.heap[rb]? = some (.cells #[wv] tRing (0,0))∧Only (fun k => ffoot fb mb lv k∨w.heap.size ≤ k) w W∧(∀ k,lv1.ownBlock = some k→lv.ownBlock = some k∨w.heap.size ≤ k)
theorem foldT_len:∀ (qs:List Eqn) (s:List Eqn × List ByteArray),(qs.foldl stepE s).2.length ≤ s.2.length + qs.length
 | [],s => by simp
 | q :: r,s => by
  rw [List.foldl_cons,List.length_cons]
  have h1:=foldT_len r (stepE s q)
  have h2:(stepE s q).2.length ≤ s.2.length + 1:=by
   unfold stepE Eqn.takes
   repeat' split
   all_goals simp
  omega
theorem takeQ_any {B fb mb:Nat} {L:List ByteArray} {lv:Value} (q:Eqn) (Al Ar:Option Addr) (cl cr:Nat) (w:World) (h:FdSt B w fb mb L lv) (hB:B ≤ w.heap.size) (hq:REq lv w [.string q.l,.string q.r,.slice Al q.ls.length cl,.slice Ar q.rs.length cr] q) (hL:L.length ≤ 1000000000) :
    Calls Tryz.prog 276 #[.pointer (some ⟨fb,0,none⟩),.agg #[.string q.l,.string q.r,.slice Al q.ls.length cl,.slice Ar q.rs.length cr]] w fun e w' => e = .returned (.bool (q.takes L).1)∧∃ lv',FdSt B w' fb mb (q.takes L).2 lv'∧Only (fun k => ffoot fb mb lv k∨w.heap.size ≤ k) w w'∧(∀ k,lv'.ownBlock = some k→lv.ownBlock = some k∨w.heap.size ≤ k):=by
 obtain ⟨u,v,hcs,⟨g1,g2,g3,g4⟩,g5,g6,_⟩:=hq
 injection hcs with _ hcs
 injection hcs with _ hcs
 injection hcs with a1 hcs
 injection hcs with a2 _
 subst a1;subst a2
 exact takeF_any q Al Ar cl cr w h hB g5.rep g6.rep (by unfold maxLen;omega) g1 g2 g3 g4 hL
theorem RingI.grow {B:Nat} {w w3 wa w':World} {fb mb rb:Nat} {lv lv3 wv u v':Value} {qs l1 l2:List Eqn} {T:List ByteArray} (g1:FdSt B w3 fb mb T lv3) (j1:OwnL 4 B tEq (REq lv3) w3 wv qs) (j2:OwnL 4 w.heap.size tEq (REq lv3) w3 u l1) (j3:w3.heap[rb]? = some (.cells #[wv] tRing (0,0)))
    (j4:Only (fun k => ffoot fb mb lv k∨w.heap.size ≤ k) w w3) (j5:∀ k,lv3.ownBlock = some k→lv.ownBlock = some k∨w.heap.size ≤ k) (f:Fut w3 wa) (o:OwnL 4 w.heap.size tEq (REq lv3) w' v' l2) (g:wa.grownBy w' u.ownBlock) (hwv:∀ k,wv.ownBlock = some k→k < w.heap.size) (hrb:rb < w.heap.size) :
    RingI B w fb mb rb lv wv qs w' v' (l2,T):=by
 have j2a:=j2.fut REq.stays f
 have hO:Only (fun k => u.ownBlock = some k) wa w':=Only.grown g fun k hk => hk
 refine ⟨lv3,(g1.fut f).only hO (fun k hk h9 => ?_),(j1.fut REq.stays f).apart (fun cs x hx => REq.keeps wa w' _ cs x hx g j2a.typed) g (fun k hk h9 => ?_),o,hO.keeps (f.block j3) (fun h9 => ?_),(j4.trans (Only.fut f)).trans (hO.mono fun k _ h9 => .inr (j2a.block k h9).1),j5⟩
 ·obtain ⟨arr,h3⟩:=j2a.typed k h9
  exact (g1.fut f).off h3 (by decide) (by decide) hk
 ·have h1:=(j2a.block k hk).1
  have h2:=hwv k h9
  omega
 ·have h1:=(j2a.block rb h9).1
  omega
set_option maxHeartbeats 4000000 in
set_option maxRecDepth 100000 in
theorem round_any {B fb mb rb:Nat} {L:List ByteArray} {lv wv:Value} (qs:List Eqn) (w:World) (h:FdSt B w fb mb L lv) (hr:w.heap[rb]? = some (.cells #[wv] tRing (0,0))) (hq:OwnL 4 B tEq (REq lv) w wv qs) (hB:B ≤ w.heap.size) (hL:L.length + qs.length ≤ 1000000000) :
    Calls Tryz.prog 275 #[.pointer (some ⟨rb,0,none⟩),.func (.func 276) #[.pointer (some ⟨fb,0,none⟩)] #[]] w fun e w' => e = .returned (.bool (decide ((roundE qs L).1.length < qs.length)))∧∃ lv' wv',FdSt B w' fb mb (roundE qs L).2 lv'∧w'.heap[rb]? = some (.cells #[wv'] tRing (0,0))∧OwnL 4 B tEq (REq lv') w' wv' (roundE qs L).1∧Only (fun k => ffoot fb mb lv k∨k = rb∨w.heap.size ≤ k) w w':=by
 obtain ⟨A,c,rfl,hl1,hl2⟩:=hq.rep.form
 have hwv:=Lib.hid fun k hk => (hq.block k hk).2
 have hrb:=Lib.hid (Array.getElem?_eq_some_iff.1 hr).1
 have HI:=Lib.hid (show RingI B w fb mb rb lv (.slice A qs.length c) qs w (.slice none 0 0) ([],L) from ⟨lv,h,hq,OwnL.nil,hr,Only.refl _,fun k hk => .inl hk⟩)
 have y0:=cell_at hr 0 (.slice A qs.length c) rfl
 have HL:=Lib.hid hL
 have HB:=Lib.hid hB
 have hlo:=Lib.hid h.lt
 have hqb:=Lib.hid hq
 have hql:qs.length ≤ 1000000000:=by omega
 unfold roundE
 clear h hr hq hl1 hl2 hL hB
 go_enter Tryz.func275,Tryz.ntmps275
 go_wp2_with fail
 go_loopw [6,19] (fun u i wr => ∃ k:Nat,k ≤ qs.length∧i = .int .i64 k∧Hid (RingI B w fb mb rb lv (.slice A qs.length c) qs wr u ((qs.take k).foldl stepE ([],L)))) (fun _ i _ => qs.length - (intOf i).toNat)
 case atStart => exact ⟨0,Nat.zero_le _,rfl,HI⟩
 case round =>
  obtain ⟨k,hk,rfl,hI⟩:=hrel
  by_cases hlt:k < qs.length
  ·have hltI:(k:Int) < qs.length:=by omega
   have e0:(0:Int) ≤ k∧(k:Int) < qs.length:=by omega
   obtain ⟨lv1,i1,i2,i3,i4,i5,i6⟩:=hI.out
   obtain ⟨b',off,Al,Ar,cl,cr,rfl,hE,u0,u1,u2,u3⟩:=eq_at i2.rep hlt
   have hnx:=Lib.hid (show (qs.take (k + 1)).foldl stepE ([],L) = stepE ((qs.take k).foldl stepE ([],L)) qs[k] by rw [List.take_succ_eq_append_getElem hlt,List.foldl_append];rfl)
   have hlen:=foldT_len (qs.take k) ([],L)
   have hlen1:=foldE_len (qs.take k) ([],L)
   rw [List.length_take] at hlen hlen1
   obtain ⟨q,hqd⟩:∃ q,q = qs[k]:=⟨_,rfl⟩
   rw [← hqd] at hE u0 u1 u2 u3 hnx
   clear hqd hI
   obtain ⟨s,hs⟩:∃ s,(qs.take k).foldl stepE ([],L) = s:=⟨_,rfl⟩
   rw [hs] at i1 i3 hnx hlen hlen1
   clear hs
   have hN:=HL.out
   have hsl:s.2.length ≤ 1000000000:=by
    have:s.2.length ≤ L.length + min k qs.length:=hlen
    omega
   have hsl1:s.1.length ≤ 1000000000:=by
    have:s.1.length ≤ 0 + min k qs.length:=hlen1
    omega
   clear hlen hlen1 hN
   -- the box
   obtain ⟨w1,hw1⟩:∃ W,W = wr.alloc (.cells #[.string q.l,.string q.r,.slice Al q.ls.length cl,.slice Ar q.rs.length cr] tEq):=⟨_,rfl⟩
   have f0:Fut wr w1:=by rw [hw1];exact Fut.alloc _ _
   have hsz:w1.heap.size = wr.heap.size + 1:=by rw [hw1];simp
   have hbx:w1.heap[wr.heap.size]? = some (.cells #[.string q.l,.string q.r,.slice Al q.ls.length cl,.slice Ar q.rs.length cr] tEq (0,0)):=by rw [hw1];exact heap_alloc_new _ _
   have i1':=i1.fut f0
   have hE':=REq.stays _ _ _ _ f0 hE
   have hk5:=i5.size
   have HC:=takeQ_any q Al Ar cl cr w1 i1' (by have:=HB.out;omega) hE' hsl
   replace HC:=Lib.hid HC
   have J:=Lib.hid (fun (w3:World) (lv3:Value) (g1:FdSt B w3 fb mb (q.takes s.2).2 lv3) (g2:Only (fun k => ffoot fb mb lv1 k∨w1.heap.size ≤ k) w1 w3) (g3:∀ k,lv3.ownBlock = some k→lv1.ownBlock = some k∨w1.heap.size ≤ k) => show OwnL 4 B tEq (REq lv3) w3 (.slice (some ⟨b',off,none⟩) qs.length c) qs∧OwnL 4 w.heap.size tEq (REq lv3) w3 u6 s.1∧w3.heap[rb]? = some (.cells #[.slice (some ⟨b',off,none⟩) qs.length c] tRing (0,0))∧Only (fun k => ffoot fb mb lv k∨w.heap.size ≤ k) w w3∧(∀ k,lv3.ownBlock = some k→lv.ownBlock = some k∨w.heap.size ≤ k)∧w3.heap[wr.heap.size]? = some (.cells #[.string q.l,.string q.r,.slice Al q.ls.length cl,.slice Ar q.rs.length cr] tEq (0,0))∧REq lv3 w3 [.string q.l,.string q.r,.slice Al q.ls.length cl,.slice Ar q.rs.length cr] q from by
    refine ⟨eqs_move i1' (i2.fut REq.stays f0) g2 g3,eqs_move i1' (i3.fut REq.stays f0) g2 g3,g2.keeps (f0.block i4) (fun h9 => ?_),(i5.trans (Only.fut f0)).trans (g2.mono fun k hk9 h9 => ?_),fun k hk9 => ?_,g2.keeps hbx (fun h9 => ?_),hE'.move i1' g2 g3⟩
    ·rcases h9 with h9 | h9
     ·exact i1'.off (f0.block i4) (by decide) (by decide) h9
     ·have:=(Array.getElem?_eq_some_iff.1 i4).1
      omega
    ·rcases h9 with (h9 | h9 | h9) | h9
     ·exact .inl (.inl h9)
     ·exact .inl (.inr (.inl h9))
     ·rcases i6 k h9 with h10 | h10
      ·exact .inl (.inr (.inr h10))
      ·exact .inr h10
     ·exact .inr (by omega)
    ·rcases g3 k hk9 with h9 | h9
     ·exact i6 k h9
     ·exact .inr (by omega)
    ·rcases h9 with h9 | h9
     ·exact i1'.off hbx (by decide) (by decide) h9
     ·omega)
   obtain ⟨d,hd⟩:∃ d,(q.takes s.2).1 = d:=⟨_,rfl⟩
   rw [hd] at HC
   have hA3:=i3.rep.form
   obtain ⟨A6,c6,rfl,_,_⟩:=hA3
   cases d
   ·have hst:=Lib.hid (show stepE s q = (s.1 ++ [q],(q.takes s.2).2) by unfold stepE;rw [if_neg (by rw [hd];decide)])
    obtain ⟨T,hT⟩:∃ T,(q.takes s.2).2 = T:=⟨_,rfl⟩
    rw [hT] at HC J hst
    replace i3:=Lib.hid i3
    clear hd hT i1 i2 i4 i5 i6 i1' hE hE' hbx f0 hsz
    rw [hw1] at HC
    go_wp2_with fail
    refine HC.out.mono ?_
    rintro e w3 ⟨rfl,lv3,g1,g2,g3⟩
    rw [← hw1] at g2 g3
    obtain ⟨j1,j2,j3,j4,j5,j6,j7⟩:=J.out w3 lv3 g1 g2 g3
    have x0:=cell_at j6 0 (.string q.l) rfl
    have x1:=cell_at j6 1 (.string q.r) rfl
    have x2:=cell_at j6 2 (.slice Al q.ls.length cl) rfl
    have x3:=cell_at j6 3 (.slice Ar q.rs.length cr) rfl
    have K:=Lib.hid (And.intro g1 (And.intro j1 (And.intro j3 (And.intro j4 j5))))
    replace j2:=Lib.hid j2
    replace j7:=Lib.hid j7
    have hs3:=j4.size
    clear g1 g2 g3 j1 j3 j4 j5 j6 HC J hw1
    go_wp2_with (first | (at_builtin;refine wpList_append_LB (R:=REq lv3) (B:=w.heap.size) (M:=1) (xs:=s.1) (ys:=[q]) (e:=381) (by go_simp) _ _ tEqs rfl Tryz.underlying374 (.agg #[.string ⟨#[]⟩,.string ⟨#[]⟩,.slice none 0 0,.slice none 0 0]) 80 infoEq rfl (by decide) REq.one REq.keeps rfl rfl (j2.out.fut REq.stays (Fut.alloc _ _)) (slOne _ [.string q.l,.string q.r,.slice Al q.ls.length cl,.slice Ar q.rs.length cr] q _ rfl (REq.stays _ _ _ _ (Fut.alloc _ _) j7.out)) ?l3 ?l4 ?b3 ?k3))
    case l3 => simp [maxLen];omega
    case l4 => simp;omega
    case b3 => simp;omega
    case k3 =>
    intro v' w' o' g' sn'
    obtain ⟨g1,j1,j3,j4,j5⟩:=K.out
    have HA:=Lib.hid (show RingI B w fb mb rb lv (.slice (some ⟨b',off,none⟩) qs.length c) qs w' v' ((qs.take (k + 1)).foldl stepE ([],L)) from by
     rw [hnx.out,hst.out]
     exact RingI.grow g1 j1 j2.out j3 j4 j5 (Fut.alloc _ _) o' g' hwv.out hrb.out)
    clear o' g' sn' g1 j1 j3 j4 j5
    go_wp2
    go_roundw
    case rel => exact ⟨k + 1,by omega,by go_num,HA⟩
    case measure => simp [intOf] <;> omega
   ·have hst:=Lib.hid (show stepE s q = (s.1,(q.takes s.2).2) by unfold stepE;rw [if_pos hd])
    obtain ⟨T,hT⟩:∃ T,(q.takes s.2).2 = T:=⟨_,rfl⟩
    rw [hT] at HC J hst
    clear hd hT i1 i2 i3 i4 i5 i6 i1' hE hE' hbx f0 hsz
    rw [hw1] at HC
    go_wp2_with fail
    refine HC.out.mono ?_
    rintro e w3 ⟨rfl,lv3,g1,g2,g3⟩
    rw [← hw1] at g2 g3
    obtain ⟨j1,j2,j3,j4,j5,_,_⟩:=J.out w3 lv3 g1 g2 g3
    have HA:=Lib.hid (show RingI B w fb mb rb lv (.slice (some ⟨b',off,none⟩) qs.length c) qs w3 (.slice A6 s.1.length c6) ((qs.take (k + 1)).foldl stepE ([],L)) from by
     rw [hnx.out,hst.out]
     exact ⟨lv3,g1,j1,j2,j3,j4,j5⟩)
    clear g1 g2 g3 j1 j2 j3 j4 j5 HC J hw1
    go_wp2
    go_roundw
    case rel => exact ⟨k + 1,by omega,by go_num,HA⟩
    case measure => simp [intOf] <;> omega
  ·obtain rfl:k = qs.length:=by omega
   rw [List.take_length] at hI
   obtain ⟨lv1,i1,i2,i3,i4,i5,i6⟩:=hI.out
   obtain ⟨s,hs⟩:∃ s,qs.foldl stepE ([],L) = s:=⟨_,rfl⟩
   rw [hs] at i1 i3
   obtain ⟨A6,c6,rfl,_,_⟩:=i3.rep.form
   have c0:=cell_at i4 0 (.slice A qs.length c) rfl
   have c1:=free_at i4 0
   obtain ⟨w5,hw5⟩:∃ W,wr.setCell ⟨rb,0,none⟩ (.slice A6 s.1.length c6) = W:=⟨_,rfl⟩
   have O2:Only (fun k => k = rb) wr w5:=by rw [← hw5];exact Only.set _ _ rfl
   have b3:w5.heap[rb]? = some (.cells #[.slice A6 s.1.length c6] tRing (0,0)):=by rw [← hw5];simp [World.setCell,Array.getElem?_modify,i4]
   have n1:=i1.only O2 (fun k hk h9 => by
    subst h9
    exact i1.off i4 (by decide) (by decide) hk)
   have n2:OwnL 4 w.heap.size tEq (REq lv1) w5 (.slice A6 s.1.length c6) s.1:=by
    have q1:OwnL 4 w.heap.size tEq (fun _ cs x => REq lv1 wr cs x) wr (.slice A6 s.1.length c6) s.1:=i3.imp fun cs x hx => hx
    have q2:OwnL 4 w.heap.size tEq (fun _ cs x => REq lv1 wr cs x) w5 (.slice A6 s.1.length c6) s.1:=q1.only (fun _ _ h => h) O2 fun k hk h9 => by
     have h1:=(i3.block k hk).1
     have h2:=hrb.out
     omega
    refine q2.imp fun cs x hx => ?_
    obtain ⟨u,v,h1,h2,h3,h4,h5⟩:=hx
    have go:∀ (x:Value) (xs:List ByteArray),Nms 0 wr x xs→Nms 0 w5 x xs:=fun x xs g1 => g1.only (fun _ _ h => h) O2 fun k hk h9 => by
     obtain ⟨arr,g3⟩:=g1.typed k hk
     rw [h9,i4] at g3
     injection g3 with g3
     injection g3 with _ g3
     exact absurd g3 (by decide)
    exact ⟨u,v,h1,h2,go _ _ h3,go _ _ h4,h5⟩
   have O3:Only (fun k => ffoot fb mb lv k∨k = rb∨w.heap.size ≤ k) w w5:=(i5.mono fun k _ hk => by
    rcases hk with hk | hk
    ·exact .inl hk
    ·exact .inr (.inr hk)).trans (O2.mono fun k _ hk => .inr (.inl hk))
   have HF:=Lib.hid (show ∃ lv' wv',FdSt B w5 fb mb s.2 lv'∧w5.heap[rb]? = some (.cells #[wv'] tRing (0,0))∧OwnL 4 B tEq (REq lv') w5 wv' s.1∧Only (fun k => ffoot fb mb lv k∨k = rb∨w.heap.size ≤ k) w w5 from ⟨lv1,_,n1,b3,n2.base HB.out,O3⟩)
   have hi2:=infoEqs
   replace hs:=Lib.hid hs
   clear hI i1 i2 i3 i4 i5 i6 n1 n2 O2 O3 b3
   go_wp2_with (first | (refine wpList_store_1 (wanted_none rfl _) _ _ rfl rfl rfl hi2 rfl c0 c1 hw5 ?_))
   clear hw5 c0 c1
   go_wp2
   go_ret
   rw [hs.out]
   exact ⟨by simp,HF.out⟩
theorem sl_mem {α:Type} {sz M:Nat} {R:World→List Value→α→Prop} {w:World} {v:Value} {xs:List α} (h:SlRep sz M R w v xs):∀ x ∈ xs,∃ cs,R w cs x:=fun x hx => by
 obtain ⟨A,cap,_,_,_,h3⟩:=h
 obtain ⟨i,hi⟩:=List.getElem?_of_mem hx
 obtain ⟨_,_,cs,_,_,_,hr⟩:=h3 i x hi
 exact ⟨cs,hr⟩
theorem RE.vs_ok:∀ (n:Nat) {w:World} {cs:List Value} {x:Ex},RE n w cs x→∀ v ∈ x.vs,v.size ≤ 140737488351232
 | 0,_,_,_,h => h.elim
 | n + 1,w,cs,.mk op t ks,h => fun v hv => by
  obtain ⟨kv,_,_,hok,hks⟩:=h
  rw [Ex.vs,vss_flat] at hv
  rcases List.mem_cons.1 hv with rfl | hv
  ·exact hok.1
  ·obtain ⟨y,hy,hv⟩:=List.mem_flatMap.1 hv
   obtain ⟨cs',hr⟩:=sl_mem hks y hy
   exact RE.vs_ok n hr v hv
theorem foldV_mem:∀ (vs L:List ByteArray) (x:ByteArray),x ∈ vs.foldl addVar L→x ∈ L∨x ∈ vs
 | [],L,x,h => .inl h
 | v :: r,L,x,h => by
  rw [List.foldl_cons] at h
  rcases foldV_mem r _ x h with h | h
  ·unfold addVar at h
   split at h
   ·exact .inl h
   ·split at h
    ·exact .inl h
    ·split at h
     ·exact .inl h
     ·rcases List.mem_append.1 h with h | h
      ·exact .inl h
      ·rw [List.mem_singleton] at h
       exact .inr (by rw [h];exact List.mem_cons_self)
  ·exact .inr (List.mem_cons_of_mem _ h)
theorem ddVs_mem {vs:List ByteArray} {x:ByteArray} (h:x ∈ ddVs vs):x ∈ vs:=(foldV_mem vs [] x h).resolve_left (by simp)
theorem ddVs_len (vs:List ByteArray):(ddVs vs).length ≤ vs.length:=by
 have:=foldl_len vs []
 simpa [ddVs] using this
theorem tm_ok {M:Nat} {w:World} {v:Value} {ts:List Tm} (h:SlRep 4 M RTm w v ts):∀ x ∈ ts.map (·.v),x.size ≤ 140737488351232:=fun x hx => by
 obtain ⟨t,ht,rfl⟩:=List.mem_map.1 hx
 obtain ⟨cs,_,hok⟩:=sl_mem h t ht
 exact hok.1
theorem Ex.lone_ok {n:Nat} {w:World} {cs:List Value} {x:Ex} (h:RE n w cs x):x.lone.size ≤ 140737488351232:=by
 unfold Ex.lone
 split
 ·refine RE.vs_ok n h _ ?_
  obtain ⟨op,t,ks⟩:=x
  exact List.mem_cons_self
 ·decide
theorem stepE_sum (s:List Eqn × List ByteArray) (q:Eqn):(stepE s q).1.length + (stepE s q).2.length ≤ s.1.length + s.2.length + 1:=by
 unfold stepE Eqn.takes
 repeat' split
 all_goals simp_all
 all_goals omega
theorem foldE_sum:∀ (qs:List Eqn) (s:List Eqn × List ByteArray),(qs.foldl stepE s).1.length + (qs.foldl stepE s).2.length ≤ s.1.length + s.2.length + qs.length
 | [],s => by simp
 | q :: r,s => by
  rw [List.foldl_cons,List.length_cons]
  have h1:=foldE_sum r (stepE s q)
  have h2:=stepE_sum s q
  omega
theorem roundE_sum (qs:List Eqn) (L:List ByteArray):(roundE qs L).1.length + (roundE qs L).2.length ≤ qs.length + L.length:=by
 have:=foldE_sum qs ([],L)
 unfold roundE
 simp at this
 omega
theorem loopE_fuel:∀ (n m:Nat) (qs:List Eqn) (L:List ByteArray),qs.length < n→qs.length < m→loopE n qs L = loopE m qs L
 | 0,_,_,_,h,_ => absurd h (by omega)
 | _ + 1,0,_,_,_,h => absurd h (by omega)
 | n + 1,m + 1,qs,L,h1,h2 => by
  unfold loopE
  split
  ·exact loopE_fuel n m _ _ (by omega) (by omega)
  ·rfl
theorem loopE_go {qs:List Eqn} {L:List ByteArray} (h:(roundE qs L).1.length < qs.length):loopE (qs.length + 1) qs L = loopE ((roundE qs L).1.length + 1) (roundE qs L).1 (roundE qs L).2:=by
 rw [loopE,if_pos h]
 exact loopE_fuel _ _ _ _ h (by omega)
theorem loopE_stop {qs:List Eqn} {L:List ByteArray} (h:¬ (roundE qs L).1.length < qs.length):loopE (qs.length + 1) qs L = (roundE qs L).2:=by
 rw [loopE,if_neg h]
def LimI (B fb mb rb:Nat) (W:World) (s:List Eqn × List ByteArray):Prop :=
 ∃ lv wv,FdSt B W fb mb s.2 lv∧W.heap[rb]? = some (.cells #[wv] tRing (0,0))∧OwnL 4 B tEq (REq lv) W wv s.1∧B ≤ rb
theorem LimI.fut {B fb mb rb:Nat} {W W':World} {s:List Eqn × List ByteArray} (h:LimI B fb mb rb W s) (hf:Fut W W'):LimI B fb mb rb W' s:=by
 obtain ⟨lv,wv,h1,h2,h3,h4⟩:=h
 exact ⟨lv,wv,h1.fut hf,hf.block h2,h3.fut REq.stays hf,h4⟩
theorem FdSt.ge {B fb mb:Nat} {w:World} {L:List ByteArray} {lv:Value} (h:FdSt B w fb mb L lv):∀ k,ffoot fb mb lv k→B ≤ k:=by
 rintro k (rfl | rfl | hk)
 ·exact h.low.1
 ·exact h.low.2
 ·exact (h.list.block _ hk).1
theorem LimI.round {w0:World} {fb mb rb:Nat} {W:World} {qs:List Eqn} {L:List ByteArray} (hF:Fut w0 W) (h:LimI w0.heap.size fb mb rb W (qs,L)) (hL:L.length + qs.length ≤ 1000000000) :
    Calls Tryz.prog 275 #[.pointer (some ⟨rb,0,none⟩),.func (.func 276) #[.pointer (some ⟨fb,0,none⟩)] #[]] W fun e w' => e = .returned (.bool (decide ((roundE qs L).1.length < qs.length)))∧Fut w0 w'∧LimI w0.heap.size fb mb rb w' (roundE qs L):=by
 obtain ⟨lv,wv,h1,h2,h3,h4⟩:=h
 refine (round_any qs W h1 h2 h3 hF.size hL).mono ?_
 rintro e w' ⟨rfl,lv',wv',g1,g2,g3,g4⟩
 refine ⟨rfl,?_,lv',wv',g1,g2,g3,h4⟩
 have hs:=hF.size
 have hO:Only (fun k => w0.heap.size ≤ k) w0 w':=(Only.fut hF).trans (g4.mono fun k _ hk => by
  rcases hk with hk | hk | hk
  ·exact h1.ge k hk
  ·omega
  ·omega)
 exact hO.toFut fun k hk => hk
theorem LimI.add {w0:World} {fb mb rb:Nat} {Wb W:World} {qs:List Eqn} {L:List ByteArray} {A:Option Addr} {n c:Nat} {vs:List ByteArray} (hF:Fut w0 Wb) (h:LimI w0.heap.size fb mb rb Wb (qs,L)) (f:Fut Wb W) (hv:Nms Wb.heap.size W (.slice A n c) vs) (hs:∀ v ∈ vs,v.size ≤ 140737488351232) (hL:L.length + vs.length ≤ 10000000000) :
    Calls Tryz.prog 271 #[.pointer (some ⟨fb,0,none⟩),.slice A n c] W fun e w' => (∃ u,e = .returned u)∧Fut w0 w'∧LimI w0.heap.size fb mb rb w' (qs,vs.foldl addF L):=by
 obtain ⟨lv,wv,h1,h2,h3,h4⟩:=h
 have hlt:=h1.lt
 replace h1:=h1.fut f
 replace h2:=f.block h2
 replace h3:=h3.fut REq.stays f
 replace hF:=hF.trans f
 obtain ⟨A1,c1,hAc,_,_⟩:=hv.rep.form
 injection hAc with e1 e2 e3
 subst e1;subst e2;subst e3
 refine (addF_any A c vs W h1 hF.size hv.rep (by unfold maxLen;omega) hs (fun a ha h9 => ?_) hL).mono ?_
 ·have g1:=hlt _ h9
  have g2:=(hv.block a.block (by rw [ha];rfl)).1
  omega
 ·rintro e w' ⟨hu,lv',g1,g2,g3⟩
  refine ⟨hu,?_,lv',wv,g1,g2.keeps h2 (fun h9 => ?_),eqs_move h1 h3 g2 g3,h4⟩
  ·have hsz:=hF.size
   have hO:Only (fun k => w0.heap.size ≤ k) w0 w':=(Only.fut hF).trans (g2.mono fun k _ hk => by
    rcases hk with hk | hk
    ·exact h1.ge k hk
    ·omega)
   exact hO.toFut fun k hk => hk
  ·rcases h9 with h9 | h9
   ·exact h1.off h2 (by decide) (by decide) h9
   ·have:=(Array.getElem?_eq_some_iff.1 h2).1
    omega
theorem eqs_set {B rb:Nat} {w w5:World} {lv wv x:Value} {qs:List Eqn} (i3:OwnL 4 B tEq (REq lv) w wv qs) (i4:w.heap[rb]? = some (.cells #[x] tRing (0,0))) (O2:Only (fun k => k = rb) w w5):OwnL 4 B tEq (REq lv) w5 wv qs:=by
 have q1:OwnL 4 B tEq (fun _ cs x => REq lv w cs x) w wv qs:=i3.imp fun cs x hx => hx
 have q2:OwnL 4 B tEq (fun _ cs x => REq lv w cs x) w5 wv qs:=q1.only (fun _ _ h => h) O2 fun k hk h9 => by
  obtain ⟨arr,g3⟩:=i3.typed k hk
  rw [h9,i4] at g3
  injection g3 with g3
  injection g3 with _ g3
  exact absurd g3 (by decide)
 refine q2.imp fun cs x hx => ?_
 obtain ⟨u,v,h1,h2,h3,h4,h5⟩:=hx
 have go:∀ (x:Value) (xs:List ByteArray),Nms 0 w x xs→Nms 0 w5 x xs:=fun x xs g1 => g1.only (fun _ _ h => h) O2 fun k hk h9 => by
  obtain ⟨arr,g3⟩:=g1.typed k hk
  rw [h9,i4] at g3
  injection g3 with g3
  injection g3 with _ g3
  exact absurd g3 (by decide)
 exact ⟨u,v,h1,h2,go _ _ h3,go _ _ h4,h5⟩
theorem lim_wait {w0 W w':World} {fb mb rb:Nat} {L:List ByteArray} {lv wv v':Value} {qs:List Eqn} {q:Eqn} (hF:Fut w0 W) (h1:FdSt w0.heap.size W fb mb L lv) (h2:W.heap[rb]? = some (.cells #[wv] tRing (0,0))) (h3:OwnL 4 w0.heap.size tEq (REq lv) W wv qs) (h4:w0.heap.size ≤ rb)
    (o:OwnL 4 w0.heap.size tEq (REq lv) w' v' (qs ++ [q])) (g:W.grownBy w' wv.ownBlock):w'.cell? ⟨rb,0,none⟩ = some wv∧w'.frozen? ⟨rb,0,none⟩ = false∧Fut w0 (w'.setCell ⟨rb,0,none⟩ v')∧LimI w0.heap.size fb mb rb (w'.setCell ⟨rb,0,none⟩ v') (qs ++ [q],L):=by
 have O1:Only (fun k => wv.ownBlock = some k) W w':=Only.grown g fun k hk => hk
 have hty:=h3.typed
 have b1:=O1.keeps h2 (fun e => by
  obtain ⟨arr,h9⟩:=hty rb e
  rw [h2] at h9
  injection h9 with h9
  injection h9 with _ h9
  exact absurd h9 (by decide))
 have n1:=h1.only O1 (fun k hk e => by
  obtain ⟨arr,h9⟩:=hty k e
  exact h1.off h9 (by decide) (by decide) hk)
 have O2:Only (fun k => k = rb) w' (w'.setCell ⟨rb,0,none⟩ v'):=Only.set _ _ rfl
 have n2:=n1.only O2 (fun k hk e => by
  subst e
  exact n1.off b1 (by decide) (by decide) hk)
 have b3:(w'.setCell ⟨rb,0,none⟩ v').heap[rb]? = some (.cells #[v'] tRing (0,0)):=by simp [World.setCell,Array.getElem?_modify,b1]
 have hO:Only (fun k => w0.heap.size ≤ k) w0 (w'.setCell ⟨rb,0,none⟩ v'):=((Only.fut hF).trans (O1.mono fun k _ hk => (h3.block k hk).1)).trans (O2.mono fun k _ hk => by omega)
 exact ⟨cell_at b1 0 _ rfl,free_at b1 0,hO.toFut fun k hk => hk,lv,v',n2,b3,eqs_set o b1 O2,h4⟩
theorem foldB_len:∀ (xs:List Lt) (s:List Eqn × List ByteArray),(xs.foldl stepB s).1.length ≤ s.1.length + xs.length∧(xs.foldl stepB s).2.length ≤ s.2.length + (xs.flatMap Lt.vs).length
 | [],s => by simp
 | x :: r,s => by
  rw [List.foldl_cons,List.length_cons,List.flatMap_cons,List.length_append]
  have h1:=foldB_len r (stepB s x)
  have h2:(stepB s x).1.length ≤ s.1.length + 1∧(stepB s x).2.length ≤ s.2.length + x.vs.length:=by
   unfold stepB
   split
   ·refine ⟨Nat.le_succ _,?_⟩
    have h1:=foldF_len (tmVars x.a) s.2
    have h2:=ddVs_len (x.a.map (·.v))
    unfold tmVars at h1
    unfold Lt.vs
    rw [List.length_append]
    unfold tmVars
    show (List.foldl addF s.2 (ddVs _)).length ≤ _
    omega
   ·split
    ·exact ⟨by simp,by simp⟩
    ·exact ⟨Nat.le_succ _,by omega⟩
  omega
end Go.Proofs.YtobabnpllokkaaaGreatDoor
namespace Go.Proofs.YtobabnpllokkaaaGreatDoor
open Go.RowKit Go.WideMaps
theorem run_alloc_of {P:Program} {T:TypeId} {z:Value} {n:Nat} (hi:(P.info? T).map (fun i => (i.zero,i.size)) = some (some z,n)) (w:World):(Instr.alloc T true (.tuple #[])).run P w = .ok (.pointer (some ⟨w.heap.size,0,none⟩)) (w.alloc (.cells z.cells T)):=by
 cases hq:P.info? T with
 | none => simp [hq] at hi
 | some i =>
  have hz:i.zero = some z:=by
   rw [hq] at hi
   simp at hi
   exact hi.1
  simp [Instr.alloc,zeroValue,typeInfo,hq,hz,Sem.run_bind,newVar,newRow,run_newObj_alloc]
theorem box_store {P:Program} {T:TypeId} (w:World) (cs:List Value) (z:Array Value) (hi:(P.info? T).map (·.size) = some cs.length) (hz:z.size = cs.length) (h1:∀ v ∈ cs,v.oneCell' = true) :
    (Instr.storeAt T (.pointer (some ⟨w.heap.size,0,none⟩)) (.agg cs.toArray)).run P (w.alloc (.cells z T)) = .ok () (w.alloc (.cells cs.toArray T)):=by
 have hb:=heap_alloc_new w (.cells z T)
 have hs:cs.toArray.size = cs.length:=by simp
 have h2:=run_storeAt_mid (P:=P) (w.alloc (.cells z T)) w.heap.size 0 T cs.toArray (fun j hj0 => by
  have hj:j < cs.length:=by simpa using hj0
  refine ⟨?_,?_⟩
  ·rw [Nat.zero_add];simp only [World.cell?,hb];simp [hz,hj]
  ·simp only [World.frozen?,hb];simp) (by rw [hi,hs]) (by
   rw [Array.all_eq_true_iff_forall_mem]
   intro v hv
   exact h1 v (by simpa using hv))
 obtain ⟨arr',h3,h4,h5⟩:=setCells_put cs 0 _ _ hb
 have e1:arr' = cs.toArray:=by
  refine Array.ext_getElem? fun j => ?_
  rw [h5]
  by_cases hj:j < cs.length
  ·rw [if_pos (by omega)];simp
  ·rw [if_neg (by omega)]
   rw [Array.getElem?_eq_none (by omega),Array.getElem?_eq_none (by simpa using hj)]
 simp only at h2
 rw [h3,e1,putObj_alloc] at h2
 exact h2
theorem wpList_rangeBox {P:Program} {ops:Array Oper} {rest:List Oper} {o2 o3 o4:Oper} {a:Act} {Q:Exit→Act→World→Prop} {w w':World} {T:TypeId} {x x4 y4:Operand} {b o:Nat} (cs:List Value) {z:Value} {fs:Array Field}
    (g2:o2.guard = none) (g3:o3.guard = none) (g4:o4.guard = none) (h2:o2.op = .load T x) (h3:o3.op = .alloc T) (h4:o4.op = .store T x4 y4) (hx:a.eval x = .pointer (some ⟨b,o,none⟩)) (hc:∀ j v,cs[j]? = some v→w.cell? ⟨b,o + j,none⟩ = some v)
    (hu:P.underlying T = some (.struct fs)) (hi:(P.info? T).map (fun i => (i.zero,i.size)) = some (some z,cs.length)) (hz:z.cells.size = cs.length) (h1:∀ v ∈ cs,v.oneCell' = true)
    (hx4:((a.put o2.dst (.agg cs.toArray)).put o3.dst (.pointer (some ⟨w.heap.size,0,none⟩))).eval x4 = .pointer (some ⟨w.heap.size,0,none⟩)) (hy4:((a.put o2.dst (.agg cs.toArray)).put o3.dst (.pointer (some ⟨w.heap.size,0,none⟩))).eval y4 = .agg cs.toArray)
    (hw:w.alloc (.cells cs.toArray T) = w') (h:wpList P ops Q rest (((a.put o2.dst (.agg cs.toArray)).put o3.dst (.pointer (some ⟨w.heap.size,0,none⟩))).put o4.dst undef) w'):wpList P ops Q (o2 :: o3 :: o4 :: rest) a w:=by
 subst hw
 have hs:(P.info? T).map (·.size) = some cs.length:=by
  cases hq:P.info? T with
  | none => simp [hq] at hi
  | some i =>
   rw [hq] at hi
   simp at hi
   simp [hi.2]
 refine wpList_load_mid g2 T x h2 b o hx cs _ hc hu rfl hs ?_
 refine wpList_of_run (wanted_none g3 _) (v:=.pointer (some ⟨w.heap.size,0,none⟩)) (w':=w.alloc (.cells z.cells T)) ?_ ?_
 ·unfold execOp
  simp only [h3,Sem.run_bind,Sem.run_pure,Result.andThen_ok,run_alloc_of hi]
 ·refine wpList_of_skip (wanted_none g4 _) (w':=w.alloc (.cells cs.toArray T)) ?_ h
  unfold execOp
  simp only [h4,hx4,hy4,Sem.run_bind,Sem.run_pure,Result.andThen_ok,box_store w cs z.cells hs hz h1]
end Go.Proofs.YtobabnpllokkaaaGreatDoor
namespace Go.Proofs.YtobabnpllokkaaaGreatDoor
open Go.RowKit Go.WideMaps Go.Maps
theorem lim_new (w:World):LimI w.heap.size (w.heap.size + 1) w.heap.size (w.heap.size + 2) (((w.alloc (.map #[] 0)).alloc (.cells #[.slice none 0 0,.map (some w.heap.size)] tFd)).alloc (.cells #[.slice none 0 0] tRing)) ([],[]):=by
 have h1:=MapE.new (kv:=strV) w
 have s1:(w.alloc (.map #[] 0)).heap.size = w.heap.size + 1:=by simp
 have h2:=heap_alloc_new (w.alloc (.map #[] 0)) (.cells #[.slice none 0 0,.map (some w.heap.size)] tFd)
 rw [s1] at h2
 have s2:((w.alloc (.map #[] 0)).alloc (.cells #[.slice none 0 0,.map (some w.heap.size)] tFd)).heap.size = w.heap.size + 2:=by simp
 have h3:=heap_alloc_new ((w.alloc (.map #[] 0)).alloc (.cells #[.slice none 0 0,.map (some w.heap.size)] tFd)) (.cells #[.slice none 0 0] tRing)
 rw [s2] at h3
 have f1:=Fut.alloc (w.alloc (.map #[] 0)) (.cells #[.slice none 0 0,.map (some w.heap.size)] tFd)
 have f2:=Fut.alloc ((w.alloc (.map #[] 0)).alloc (.cells #[.slice none 0 0,.map (some w.heap.size)] tFd)) (.cells #[.slice none 0 0] tRing)
 exact ⟨.slice none 0 0,.slice none 0 0,⟨f2.block h2,OwnL.nil,(h1.fut f1).fut f2,fun s hs => (by cases hs),by omega,by omega⟩,h3,OwnL.nil,by omega⟩
theorem lim_cells {B fb mb rb:Nat} {W:World} {s:List Eqn × List ByteArray} (h:LimI B fb mb rb W s):∃ A c,W.cell? ⟨rb,0,none⟩ = some (.slice A s.1.length c):=by
 obtain ⟨lv,wv,h1,h2,h3,h4⟩:=h
 obtain ⟨A,c,rfl,_,_⟩:=h3.rep.form
 exact ⟨A,c,cell_at h2 0 _ rfl⟩
theorem eq_one {nb fb mb:Nat} {q:Eqn} {lv1 u1 u2:Value} (W:World) (hok:q.ok) (h1:Nms nb (W.alloc (.cells #[.string q.l,.string q.r,u1,u2] tEq)) u1 q.ls) (h2:Nms nb (W.alloc (.cells #[.string q.l,.string q.r,u1,u2] tEq)) u2 q.rs) (hlt:∀ k,ffoot fb mb lv1 k→k < nb) :
    SlRep 4 1 (REq lv1) (W.alloc (.cells #[.string q.l,.string q.r,u1,u2] tEq)) (.slice (some ⟨W.heap.size,0,none⟩) 1 1) [q] :=
 slOne W [.string q.l,.string q.r,u1,u2] q tEq rfl ⟨u1,u2,rfl,hok,h1.base (Nat.zero_le _),h2.base (Nat.zero_le _),fun k hk e => by
  have g1:=(h1.block k hk).1
  have g2:=hlt k (.inr (.inr e))
  omega,fun k hk e => by
  have g1:=(h2.block k hk).1
  have g2:=hlt k (.inr (.inr e))
  omega⟩
theorem infoLt:(Tryz.prog.info? 120).map (fun i => (i.zero,i.size)) = some (some (.agg #[.int .i8 0,.string ⟨#[]⟩,.slice none 0 0,.int .i8 0,.int .i8 0,.string ⟨#[]⟩,.int .i8 0,.int .i64 0,.string ⟨#[]⟩,.slice none 0 0,.int .i8 0,.string ⟨#[]⟩,.int .i8 0,.int .i64 0,.string ⟨#[]⟩,.slice none 0 0]),16):=by kernel_rfl
theorem Lt.cs_one (x:Lt) (A1:Option Addr) (n1 c1:Nat) (A2:Option Addr) (n2 c2:Nat) (A3:Option Addr) (n3 c3:Nat):∀ v ∈ x.cs (.slice A1 n1 c1) (.slice A2 n2 c2) (.slice A3 n3 c3),v.oneCell' = true:=fun v hv => by
 simp only [Lt.cs,List.mem_cons,List.not_mem_nil,or_false] at hv
 rcases hv with rfl | rfl | rfl | rfl | rfl | rfl | rfl | rfl | rfl | rfl | rfl | rfl | rfl | rfl | rfl | rfl <;> rfl
def wlen (w:World) (rb:Nat):Nat:=match w.cell? ⟨rb,0,none⟩ with
 | some (.slice _ n _) => n
 | _ => 0
theorem LimI.wlen {B fb mb rb:Nat} {W:World} {s:List Eqn × List ByteArray} (h:LimI B fb mb rb W s):wlen W rb = s.1.length:=by
 obtain ⟨A,c,h1⟩:=lim_cells h
 unfold Go.Proofs.YtobabnpllokkaaaGreatDoor.wlen
 rw [h1]
set_option maxHeartbeats 4000000 in
set_option maxRecDepth 100000 in
theorem limits_any {M:Nat} (A:Option Addr) (c:Nat) (xb:List Lt) (w:World) (h:SlRep 16 M RLt w (.slice A xb.length c) xb) (hM:M ≤ 9223372036854775807) (hl1:xb.length ≤ 400000000) (hl2:(xb.flatMap Lt.vs).length ≤ 400000000) :
    Calls Tryz.prog 248 #[.slice A xb.length c] w fun e w' => ∃ fb mb lv,e = .returned (.pointer (some ⟨fb,0,none⟩))∧FdSt w.heap.size w' fb mb (limitsB xb) lv∧Fut w w':=by
 obtain ⟨_,_,hv,hc1,hc2⟩:=h.form
 have H:=Lib.hid h
 have HL2:=Lib.hid hl2
 clear h hc1 hc2 hv hl2
 obtain ⟨w1,hw1⟩:∃ W,W = ((w.alloc (.map #[] 0)).alloc (.cells #[.slice none 0 0,.map (some w.heap.size)] tFd)).alloc (.cells #[.slice none 0 0] tRing):=⟨_,rfl⟩
 have HI:=lim_new w
 have F1:Fut w w1:=by rw [hw1];exact ((Fut.alloc w _).trans (Fut.alloc _ _)).trans (Fut.alloc _ _)
 rw [← hw1] at HI
 replace HI:=Lib.hid HI
 replace F1:=Lib.hid F1
 replace hw1:=Lib.hid hw1
 have hmm:=@run_makeMap Tryz.prog
 go_enter Tryz.func248,Tryz.ntmps248
 go_wp2_with fail
 clear hmm
 rw [← hw1.out]
 go_loopw [12] (fun i wr => ∃ k:Nat,k ≤ xb.length∧i = .int .i64 k∧Hid (Fut w wr)∧Hid (LimI w.heap.size (w.heap.size + 1) w.heap.size (w.heap.size + 2) wr ((xb.take k).foldl stepB ([],[])))) (fun i _ => xb.length - (intOf i).toNat)
 case atStart => exact ⟨0,Nat.zero_le _,rfl,F1,HI⟩
 case round =>
  obtain ⟨k,hk,rfl,hF,hI⟩:=hrel
  by_cases hlt:k < xb.length
  ·have hltI:(k:Int) < xb.length:=by omega
   have e0:(0:Int) ≤ k∧(k:Int) < xb.length:=by omega
   obtain ⟨b',off,A',c2,Al,l',cl,Ad,d',cd,rfl,hcs,_,_,g3⟩:=lt_at (H.out.fut RLt.stays hF.out) hlt
   have hnx:=Lib.hid (show (xb.take (k + 1)).foldl stepB ([],[]) = stepB ((xb.take k).foldl stepB ([],[])) xb[k] by rw [List.take_succ_eq_append_getElem hlt,List.foldl_append];rfl)
   have hlen:=foldB_len (xb.take k) ([],[])
   have hlv:=bs_le hlt
   have hlv2:=HL2.out
   rw [List.length_take] at hlen
   generalize xb[k] = z at *
   obtain ⟨s,hs⟩:∃ s,(xb.take k).foldl stepB ([],[]) = s:=⟨_,rfl⟩
   rw [hs] at hI hnx hlen
   clear hs
   have hs1:s.1.length ≤ 400000000:=by
    have:s.1.length ≤ 0 + min k xb.length:=hlen.1
    omega
   have hs2:s.2.length + z.vs.length ≤ 400000000:=by
    have:s.2.length ≤ 0 + ((xb.take k).flatMap Lt.vs).length:=hlen.2
    omega
   clear hlen hlv hlv2
   obtain ⟨nl,Al',el,hl,hl3⟩:∃ n Ak ck,(Value.slice Al l' cl) = .slice Ak z.l.kids.length ck∧RE n wr (z.l.cs (.slice Al l' cl)) z.l:=by
    obtain ⟨n,hn⟩:=g3.left
    obtain ⟨Ak,ck,hk⟩:=ex_kv hn
    exact ⟨n,Ak,ck,hk,hn⟩
   obtain ⟨nd,Ad',ed,hd,hd3⟩:∃ n Ak ck,(Value.slice Ad d' cd) = .slice Ak z.d.kids.length ck∧RE n wr (z.d.cs (.slice Ad d' cd)) z.d:=by
    obtain ⟨n,hn⟩:=g3.right
    obtain ⟨Ak,ck,hk⟩:=ex_kv hn
    exact ⟨n,Ak,ck,hk,hn⟩
   injection hl with a1 a2 a3
   subst a1;subst a2;subst a3
   injection hd with a1 a2 a3
   subst a1;subst a2;subst a3
   have hargs:=Lib.hid g3.args
   have hzv:z.a.length + z.l.size + z.d.size ≤ 400000000:=by
    have:(Lt.vs z).length = z.a.length + (z.l.size + z.d.size):=by
     unfold Lt.vs
     rw [List.length_append,List.length_append,List.length_map,Ex.vs_len,Ex.vs_len]
    omega
   have hsa:s.2.length + z.a.length ≤ 400000000:=by
    have:(Lt.vs z).length = z.a.length + (z.l.size + z.d.size):=by
     unfold Lt.vs
     rw [List.length_append,List.length_append,List.length_map,Ex.vs_len,Ex.vs_len]
    omega
   clear g3 hs2
   replace hl3:=Lib.hid hl3
   replace hd3:=Lib.hid hd3
   obtain ⟨wb,hwb⟩:∃ W,W = wr.alloc (.cells (z.cs (.slice A' z.a.length c2) (.slice Al z.l.kids.length cl) (.slice Ad z.d.kids.length cd)).toArray 120):=⟨_,rfl⟩
   have f0:Fut wr wb:=by rw [hwb];exact Fut.alloc _ _
   have hbx:wb.heap[wr.heap.size]? = some (.cells (z.cs (.slice A' z.a.length c2) (.slice Al z.l.kids.length cl) (.slice Ad z.d.kids.length cd)).toArray 120 (0,0)):=by rw [hwb];exact heap_alloc_new _ _
   replace hwb:=Lib.hid hwb
   have hFb:=Lib.hid (hF.out.trans f0)
   have hIb:=Lib.hid (hI.out.fut f0)
   have f0h:=Lib.hid f0
   have hbxh:=Lib.hid hbx
   have c0:=cell_at hbx 0 (.int .i8 z.k) rfl
   have c1:=cell_at hbx 1 (.string z.p) rfl
   have c2':=cell_at hbx 2 (.slice A' z.a.length c2) rfl
   have c3':=cell_at hbx 3 (.int .i8 z.r) rfl
   clear f0 hbx hI
   have hone:=Lt.cs_one z A' z.a.length c2 Al z.l.kids.length cl Ad z.d.kids.length cd
   have hcs9:=Lib.hid hcs
   clear hcs
   by_cases ek:z.k = 1
   ·have hst:stepB s z = (s.1,(tmVars z.a).foldl addF s.2):=if_pos ek
    have HC:=Lib.hid (atomVars_any z.p A' c2 _ z.a wb (hargs.out.fut RTm.stays f0h.out) (by omega) (by omega))
    have hvok:=Lib.hid (show ∀ v ∈ tmVars z.a,v.size ≤ 140737488351232 from fun v hv => tm_ok hargs.out v (ddVs_mem hv))
    have hvl:(tmVars z.a).length ≤ z.a.length:=by
     have:=ddVs_len (z.a.map (·.v))
     rw [List.length_map] at this
     exact this
    rw [hst] at hnx
    go_wp2_with (first | (refine wpList_rangeBox (z.cs (.slice A' z.a.length c2) (.slice Al z.l.kids.length cl) (.slice Ad z.d.kids.length cd)) rfl rfl rfl rfl rfl rfl rfl hcs9.out Tryz.underlying120 infoLt rfl hone rfl rfl hwb.out.symm ?_))
    refine HC.out.mono ?_
    rintro e w3 ⟨v,rfl,hv,f3⟩
    obtain ⟨A3,c3,rfl,_,_⟩:=hv.rep.form
    have HA:=Lib.hid (LimI.add hFb.out hIb.out f3 hv hvok.out (by omega))
    clear hv f3
    go_wp2_with fail
    refine HA.out.mono ?_
    rintro e w4 ⟨⟨u,rfl⟩,hF4,hI4⟩
    have HF4:=Lib.hid hF4
    have HI4:=Lib.hid (show LimI w.heap.size (w.heap.size + 1) w.heap.size (w.heap.size + 2) w4 ((xb.take (k + 1)).foldl stepB ([],[])) from by rw [hnx.out];exact hI4)
    clear hF4 hI4 HA HC
    go_wp2
    go_roundw
    case rel => exact ⟨k + 1,by omega,by go_num,HF4,HI4⟩
    case measure => simp [intOf] <;> omega
   ·by_cases eq:z.k = 3∧z.r = 1
    ·obtain ⟨ez,er⟩:=eq
     have hst:stepB s z = (s.1 ++ [⟨z.l.lone,z.d.lone,z.l.vars,z.d.vars⟩],s.2):=by
      unfold stepB
      exact (if_neg ek).trans (if_pos ⟨ez,er⟩)
     rw [hst] at hnx
     obtain ⟨lv1,wv1,i1,i2,i3,i4⟩:=hIb.out
     obtain ⟨Aw,cw,rfl,_,_⟩:=i3.rep.form
     have hlt1:=i1.lt
     have hqok:Eqn.ok ⟨z.l.lone,z.d.lone,z.l.vars,z.d.vars⟩:=⟨Ex.lone_ok hl3.out,Ex.lone_ok hd3.out,fun v hv => RE.vs_ok nl hl3.out v (ddVs_mem hv),fun v hv => RE.vs_ok nd hd3.out v (ddVs_mem hv)⟩
     have hEL:=RE.stays nl _ _ _ _ f0h.out hl3.out
     have hED:=RE.stays nd _ _ _ _ f0h.out hd3.out
     have z4:=cell_at hbxh.out 4 (.int .i8 z.l.op) rfl
     have z5:=cell_at hbxh.out 5 (.string z.l.t.v) rfl
     have z6:=cell_at hbxh.out 6 (.int .i8 z.l.t.x.k) rfl
     have z7:=cell_at hbxh.out 7 (.int .i64 z.l.t.x.n) rfl
     have z8:=cell_at hbxh.out 8 (.string z.l.t.x.s) rfl
     have z9:=cell_at hbxh.out 9 (.slice Al z.l.kids.length cl) rfl
     have z10:=cell_at hbxh.out 10 (.int .i8 z.d.op) rfl
     have z11:=cell_at hbxh.out 11 (.string z.d.t.v) rfl
     have z12:=cell_at hbxh.out 12 (.int .i8 z.d.t.x.k) rfl
     have z13:=cell_at hbxh.out 13 (.int .i64 z.d.t.x.n) rfl
     have z14:=cell_at hbxh.out 14 (.string z.d.t.x.s) rfl
     have z15:=cell_at hbxh.out 15 (.slice Ad z.d.kids.length cd) rfl
     have yr:=cell_at i2 0 (.slice Aw s.1.length cw) rfl
     have K:=Lib.hid (And.intro i1 (And.intro i2 (And.intro i3 i4)))
     replace hqok:=Lib.hid hqok
     replace hlt1:=Lib.hid hlt1
     replace hEL:=Lib.hid hEL
     replace hED:=Lib.hid hED
     clear i1 i2 i3 i4
     go_wp2_with (first | (refine wpList_rangeBox (z.cs (.slice A' z.a.length c2) (.slice Al z.l.kids.length cl) (.slice Ad z.d.kids.length cd)) rfl rfl rfl rfl rfl rfl rfl hcs9.out Tryz.underlying120 infoLt rfl hone rfl rfl hwb.out.symm ?_))
     refine wp_graph 16 [.d,.d,.d,.d,.d,.d,.d,.d,.d,.d,.r (fun v W => Nms wb.heap.size W v z.l.vars),.d,.d,.r (fun v W => Nms wb.heap.size W v z.d.vars),.r (fun v W => ∃ u1 u2,v = .agg #[.string z.l.lone,.string z.d.lone,u1,u2]∧Nms wb.heap.size W u1 z.l.vars∧Nms wb.heap.size W u2 z.d.vars),.r (fun v W => (∃ A,v = .slice A 1 1)∧SlRep 4 1 (REq lv1) W v [⟨z.l.lone,z.d.lone,z.l.vars,z.d.vars⟩])] (by kernel_rfl) (by kernel_rfl) (by kernel_rfl) ?_
     simp only [takS,Exs]
     iterate 12 apply Exists.intro
     apply Run.valG (wanted_none rfl _)
     ·intro w1 h1 hk
      go_simp;rfl
     simp only [actS]
     apply Run.valG (wanted_none rfl _)
     ·intro w1 h1 hk
      have q4:=h1.cell z4;have q5:=h1.cell z5;have q6:=h1.cell z6;have q7:=h1.cell z7;have q8:=h1.cell z8;have q9:=h1.cell z9;have q10:=h1.cell z10;have q11:=h1.cell z11;have q12:=h1.cell z12;have q13:=h1.cell z13;have q14:=h1.cell z14;have q15:=h1.cell z15;have qr:=h1.cell yr;have hg:=(Fut.drew _).trans h1;have hgs:=hg.size
      have hcw:=fun b o => Below.cell (p:=⟨b,o,none⟩) h1
      go_simp;rfl
     simp only [actS]
     apply Run.valG (wanted_none rfl _)
     ·intro w1 h1 hk
      go_simp;rfl
     simp only [actS]
     apply Run.valG (wanted_none rfl _)
     ·intro w1 h1 hk
      have q4:=h1.cell z4;have q5:=h1.cell z5;have q6:=h1.cell z6;have q7:=h1.cell z7;have q8:=h1.cell z8;have q9:=h1.cell z9;have q10:=h1.cell z10;have q11:=h1.cell z11;have q12:=h1.cell z12;have q13:=h1.cell z13;have q14:=h1.cell z14;have q15:=h1.cell z15;have qr:=h1.cell yr;have hg:=(Fut.drew _).trans h1;have hgs:=hg.size
      have hcw:=fun b o => Below.cell (p:=⟨b,o,none⟩) h1
      go_simp;rfl
     simp only [actS]
     apply Run.call (wanted_none rfl _) (fun _ _ => by go_simp;exact ⟨rfl,rfl⟩)
     ·intro w1 h1 hk
      have q4:=h1.cell z4;have q5:=h1.cell z5;have q6:=h1.cell z6;have q7:=h1.cell z7;have q8:=h1.cell z8;have q9:=h1.cell z9;have q10:=h1.cell z10;have q11:=h1.cell z11;have q12:=h1.cell z12;have q13:=h1.cell z13;have q14:=h1.cell z14;have q15:=h1.cell z15;have qr:=h1.cell yr;have hg:=(Fut.drew _).trans h1;have hgs:=hg.size
      exact loneT_any z.l Al cl _
     simp only [actS]
     apply Run.valG (wanted_none rfl _)
     ·intro w1 h1 hk
      go_simp;rfl
     simp only [actS]
     apply Run.valG (wanted_none rfl _)
     ·intro w1 h1 hk
      have q4:=h1.cell z4;have q5:=h1.cell z5;have q6:=h1.cell z6;have q7:=h1.cell z7;have q8:=h1.cell z8;have q9:=h1.cell z9;have q10:=h1.cell z10;have q11:=h1.cell z11;have q12:=h1.cell z12;have q13:=h1.cell z13;have q14:=h1.cell z14;have q15:=h1.cell z15;have qr:=h1.cell yr;have hg:=(Fut.drew _).trans h1;have hgs:=hg.size
      have hcw:=fun b o => Below.cell (p:=⟨b,o,none⟩) h1
      go_simp;rfl
     simp only [actS]
     apply Run.call (wanted_none rfl _) (fun _ _ => by go_simp;exact ⟨rfl,rfl⟩)
     ·intro w1 h1 hk
      have q4:=h1.cell z4;have q5:=h1.cell z5;have q6:=h1.cell z6;have q7:=h1.cell z7;have q8:=h1.cell z8;have q9:=h1.cell z9;have q10:=h1.cell z10;have q11:=h1.cell z11;have q12:=h1.cell z12;have q13:=h1.cell z13;have q14:=h1.cell z14;have q15:=h1.cell z15;have qr:=h1.cell yr;have hg:=(Fut.drew _).trans h1;have hgs:=hg.size
      exact loneT_any z.d Ad cd _
     simp only [actS]
     apply Run.valG (wanted_none rfl _)
     ·intro w1 h1 hk
      go_simp;rfl
     simp only [actS]
     apply Run.valG (wanted_none rfl _)
     ·intro w1 h1 hk
      have q4:=h1.cell z4;have q5:=h1.cell z5;have q6:=h1.cell z6;have q7:=h1.cell z7;have q8:=h1.cell z8;have q9:=h1.cell z9;have q10:=h1.cell z10;have q11:=h1.cell z11;have q12:=h1.cell z12;have q13:=h1.cell z13;have q14:=h1.cell z14;have q15:=h1.cell z15;have qr:=h1.cell yr;have hg:=(Fut.drew _).trans h1;have hgs:=hg.size
      have hcw:=fun b o => Below.cell (p:=⟨b,o,none⟩) h1
      go_simp;rfl
     simp only [actS]
     apply Run.callR (wanted_none rfl _) (by intro v w w' hf hs;exact hs.fut RNm.stays hf) (fun _ _ => by go_simp;exact ⟨rfl,rfl⟩)
     ·intro w1 h1 hk
      have q4:=h1.cell z4;have q5:=h1.cell z5;have q6:=h1.cell z6;have q7:=h1.cell z7;have q8:=h1.cell z8;have q9:=h1.cell z9;have q10:=h1.cell z10;have q11:=h1.cell z11;have q12:=h1.cell z12;have q13:=h1.cell z13;have q14:=h1.cell z14;have q15:=h1.cell z15;have qr:=h1.cell yr;have hg:=(Fut.drew _).trans h1;have hgs:=hg.size
      refine (exprVars_any z.l Al cl nl _ (RE.stays nl _ _ _ _ hg hEL.out) (by omega)).mono ?_;rintro e w' ⟨v,rfl,ho,hf⟩;exact ⟨_,rfl,hf,ho.base hgs⟩
     intro v10
     simp only [actS]
     apply Run.valG (wanted_none rfl _)
     ·intro w1 h1 hk
      go_simp;rfl
     simp only [actS]
     apply Run.valG (wanted_none rfl _)
     ·intro w1 h1 hk
      have q4:=h1.cell z4;have q5:=h1.cell z5;have q6:=h1.cell z6;have q7:=h1.cell z7;have q8:=h1.cell z8;have q9:=h1.cell z9;have q10:=h1.cell z10;have q11:=h1.cell z11;have q12:=h1.cell z12;have q13:=h1.cell z13;have q14:=h1.cell z14;have q15:=h1.cell z15;have qr:=h1.cell yr;have hg:=(Fut.drew _).trans h1;have hgs:=hg.size
      have hcw:=fun b o => Below.cell (p:=⟨b,o,none⟩) h1
      go_simp;rfl
     simp only [actS]
     apply Run.callR (wanted_none rfl _) (by intro v w w' hf hs;exact hs.fut RNm.stays hf) (fun _ _ => by go_simp;exact ⟨rfl,rfl⟩)
     ·intro w1 h1 hk
      have f10:=Facts.get hk 0 rfl (by kernel_rfl)
      have q4:=h1.cell z4;have q5:=h1.cell z5;have q6:=h1.cell z6;have q7:=h1.cell z7;have q8:=h1.cell z8;have q9:=h1.cell z9;have q10:=h1.cell z10;have q11:=h1.cell z11;have q12:=h1.cell z12;have q13:=h1.cell z13;have q14:=h1.cell z14;have q15:=h1.cell z15;have qr:=h1.cell yr;have hg:=(Fut.drew _).trans h1;have hgs:=hg.size
      refine (exprVars_any z.d Ad cd nd _ (RE.stays nd _ _ _ _ hg hED.out) (by omega)).mono ?_;rintro e w' ⟨v,rfl,ho,hf⟩;exact ⟨_,rfl,hf,ho.base hgs⟩
     intro v13
     simp only [actS]
     apply Run.valR (wanted_none rfl _) (by intro v w w' hf hs;exact (by obtain ⟨u1,u2,g1,g2,g3⟩:=hs;exact ⟨u1,u2,g1,g2.fut RNm.stays hf,g3.fut RNm.stays hf⟩))
     ·intro w1 h1 hk
      have f10:=Facts.get hk 0 rfl (by kernel_rfl)
      have f13:=Facts.get hk 1 rfl (by kernel_rfl)
      have q4:=h1.cell z4;have q5:=h1.cell z5;have q6:=h1.cell z6;have q7:=h1.cell z7;have q8:=h1.cell z8;have q9:=h1.cell z9;have q10:=h1.cell z10;have q11:=h1.cell z11;have q12:=h1.cell z12;have q13:=h1.cell z13;have q14:=h1.cell z14;have q15:=h1.cell z15;have qr:=h1.cell yr;have hg:=(Fut.drew _).trans h1;have hgs:=hg.size
      obtain ⟨A9,c9,rfl,_,_⟩:=f10.rep.form;obtain ⟨A8,c8,rfl,_,_⟩:=f13.rep.form;go_simp;exact ⟨_,_,⟨rfl,rfl⟩,Fut.refl _,_,_,rfl,f10,f13⟩
     intro v14
     simp only [actS]
     apply Run.valR (wanted_none rfl _) (by intro v w w' hf hs;exact ⟨hs.1,hs.2.fut REq.stays hf⟩)
     ·intro w1 h1 hk
      have f14:=Facts.get hk 2 rfl (by kernel_rfl)
      have q4:=h1.cell z4;have q5:=h1.cell z5;have q6:=h1.cell z6;have q7:=h1.cell z7;have q8:=h1.cell z8;have q9:=h1.cell z9;have q10:=h1.cell z10;have q11:=h1.cell z11;have q12:=h1.cell z12;have q13:=h1.cell z13;have q14:=h1.cell z14;have q15:=h1.cell z15;have qr:=h1.cell yr;have hg:=(Fut.drew _).trans h1;have hgs:=hg.size
      obtain ⟨u1,u2,rfl,g1,g2⟩:=f14;obtain ⟨A9,c9,rfl,_,_⟩:=g1.rep.form;obtain ⟨A8,c8,rfl,_,_⟩:=g2.rep.form;go_simp;exact ⟨_,_,⟨rfl,rfl⟩,Fut.alloc _ _,⟨_,rfl⟩,eq_one w1 hqok.out (g1.fut RNm.stays (Fut.alloc _ _)) (g2.fut RNm.stays (Fut.alloc _ _)) hlt1.out⟩
     intro v15
     simp only [actS]
     apply Run.done
     intro w2 h2 hk
     obtain ⟨f10,f13,f14,f15,_⟩:=hk
     obtain ⟨⟨A5,rfl⟩,hS5⟩:=f15
     have F3:=(Fut.drew _).trans h2
     obtain ⟨i1,i2,i3,i4⟩:=K.out
     replace hS5:=Lib.hid hS5
     have HW:=Lib.hid fun w' v' => lim_wait (w':=w') (v':=v') (q:=⟨z.l.lone,z.d.lone,z.l.vars,z.d.vars⟩) (hFb.out.trans F3) (i1.fut F3) (F3.block i2) (i3.fut REq.stays F3) i4
     have HO:=Lib.hid (i3.fut REq.stays F3)
     have hbz:=(hFb.out.trans F3).size
     clear i1 i2 i3 i4 F3 h2 K f10 f13 f14
     go_wp2_with (first | (at_builtin;refine wpList_append_LB (R:=REq lv1) (B:=w.heap.size) (M:=1) (xs:=s.1) (ys:=[⟨z.l.lone,z.d.lone,z.l.vars,z.d.vars⟩]) (e:=381) (by go_simp) _ _ tEqs rfl Tryz.underlying374 (.agg #[.string ⟨#[]⟩,.string ⟨#[]⟩,.slice none 0 0,.slice none 0 0]) 80 infoEq rfl (by decide) REq.one REq.keeps rfl rfl HO.out hS5.out ?l3 ?l4 ?b3 ?k3))
     case l3 => simp [maxLen];omega
     case l4 => simp;omega
     case b3 => exact hbz
     case k3 =>
     intro v' w' o' g' sn'
     obtain ⟨c0,c1,HF5,HI5⟩:=HW.out w' v' o' g'
     obtain ⟨A8,c8,rfl,_,_⟩:=o'.rep.form
     rw [List.length_append,List.length_singleton] at HF5 HI5 ⊢
     obtain ⟨w5,hw5⟩:∃ W,w'.setCell ⟨w.heap.size + 2,0,none⟩ (.slice A8 (s.1.length + 1) c8) = W:=⟨_,rfl⟩
     rw [hw5] at HF5 HI5
     replace HF5:=Lib.hid HF5
     rw [← hnx.out] at HI5
     replace HI5:=Lib.hid HI5
     have hi2:=infoEqs
     clear o' g' sn' HW HO
     go_wp2_with (first | (refine wpList_store_1 (wanted_none rfl _) _ _ rfl rfl rfl hi2 rfl c0 c1 hw5 ?_))
     clear hw5 c0 c1
     go_wp2
     go_roundw
     case rel => exact ⟨k + 1,by omega,by go_num,HF5,HI5⟩
     case measure => simp [intOf] <;> omega
    ·have hst:stepB s z = s:=by
       unfold stepB
       exact (if_neg ek).trans (if_neg eq)
     have HI5:=Lib.hid (show LimI w.heap.size (w.heap.size + 1) w.heap.size (w.heap.size + 2) wb ((xb.take (k + 1)).foldl stepB ([],[])) from by rw [hnx.out,hst];exact hIb.out)
     by_cases e3:z.k = 3
     ·have e4:¬ z.r = 1:=fun h => eq ⟨e3,h⟩
      clear eq hst
      go_wp2_with (first | (refine wpList_rangeBox (z.cs (.slice A' z.a.length c2) (.slice Al z.l.kids.length cl) (.slice Ad z.d.kids.length cd)) rfl rfl rfl rfl rfl rfl rfl hcs9.out Tryz.underlying120 infoLt rfl hone rfl rfl hwb.out.symm ?_))
      go_roundw
      case rel => exact ⟨k + 1,by omega,by go_num,hFb,HI5⟩
      case measure => simp [intOf] <;> omega
     ·clear eq hst
      go_wp2_with (first | (refine wpList_rangeBox (z.cs (.slice A' z.a.length c2) (.slice Al z.l.kids.length cl) (.slice Ad z.d.kids.length cd)) rfl rfl rfl rfl rfl rfl rfl hcs9.out Tryz.underlying120 infoLt rfl hone rfl rfl hwb.out.symm ?_))
      go_roundw
      case rel => exact ⟨k + 1,by omega,by go_num,hFb,HI5⟩
      case measure => simp [intOf] <;> omega
  ·obtain rfl:k = xb.length:=by omega
   rw [List.take_length] at hI
   have hlen:=foldB_len xb ([],[])
   have hl9:=HL2.out
   have hst:=Lib.hid (show limitsB xb = loopE ((beginB xb).1.length + 1) (beginB xb).1 (beginB xb).2 from rfl)
   have hI2:=Lib.hid (show LimI w.heap.size (w.heap.size + 1) w.heap.size (w.heap.size + 2) wr ((beginB xb).1,(beginB xb).2) from hI.out)
   have hb2:=Lib.hid (show (beginB xb).2.length + (beginB xb).1.length ≤ 1000000000 from by
    unfold beginB
    have h1:(xb.foldl stepB ([],[])).1.length ≤ 0 + xb.length:=hlen.1
    have h2:(xb.foldl stepB ([],[])).2.length ≤ 0 + (xb.flatMap Lt.vs).length:=hlen.2
    omega)
   clear hlen hl9 hI F1 HI hw1
   obtain ⟨Lx,hLx⟩:∃ x,limitsB xb = x:=⟨_,rfl⟩
   rw [hLx] at hst
   replace hLx:=Lib.hid hLx
   go_wp2_with fail
   go_loopw [] (fun W => ∃ qs L,Hid (Fut w W)∧Hid (LimI w.heap.size (w.heap.size + 1) w.heap.size (w.heap.size + 2) W (qs,L))∧Hid (L.length + qs.length ≤ 1000000000)∧Hid (Lx = loopE (qs.length + 1) qs L)) (fun W => wlen W (w.heap.size + 2))
   case atStart => exact ⟨_,_,hF,hI2,hb2,hst⟩
   case round =>
    obtain ⟨qs,L,hF,hI,hb,hX⟩:=hrel
    have HC:=Lib.hid (LimI.round hF.out hI.out hb.out)
    by_cases e:(roundE qs L).1.length < qs.length
    ·rw [decide_eq_true e] at HC
     have hX2:=Lib.hid (hX.out.trans (loopE_go e))
     have hb3:=Lib.hid (show (roundE qs L).2.length + (roundE qs L).1.length ≤ 1000000000 from by
      have h1:=roundE_sum qs L
      have h2:=hb.out
      omega)
     have he:=Lib.hid e
     have hwl:=Lib.hid hI.out.wlen
     clear e
     go_wp2_with fail
     refine HC.out.mono ?_
     rintro e w3 ⟨rfl,hF3,hI3⟩
     have hwl3:=Lib.hid hI3.wlen
     replace hF3:=Lib.hid hF3
     replace hI3:=Lib.hid hI3
     clear HC
     go_wp2
     go_roundw
     case rel => exact ⟨_,_,hF3,hI3,hb3,hX2⟩
     case measure =>
      have h1:=hwl.out
      have h2:=hwl3.out
      have h3:=he.out
      simp only [h1,h2]
      exact h3
    ·rw [decide_eq_false e] at HC
     have hX2:=Lib.hid (hX.out.trans (loopE_stop e))
     clear e
     go_wp2_with fail
     refine HC.out.mono ?_
     rintro e w3 ⟨rfl,hF3,hI3⟩
     replace hF3:=Lib.hid hF3
     replace hI3:=Lib.hid hI3
     clear HC
     go_wp2
     go_ret
     obtain ⟨lv,wv,g1,_⟩:=hI3.out
     refine ⟨_,w.heap.size,lv,rfl,?_,hF3.out⟩
     rw [hLx.out,hX2.out]
     exact g1
end Go.Proofs.YtobabnpllokkaaaGreatDoor
