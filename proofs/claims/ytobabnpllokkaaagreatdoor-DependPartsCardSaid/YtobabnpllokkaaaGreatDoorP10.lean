/- Parts. -/
import Derived.Test.YtobabnpllokkaaaGreatDoorP09
import Derived.Test.YtobabnpllokkaaaGreatDoorP00
set_option linter.unusedSimpArgs false
set_option linter.unusedVariables false
namespace Go.Proofs.YtobabnpllokkaaaGreatDoor
open Go.RowKit Go.WideMaps Go.Maps
theorem lim_new (w:World):LimI w.heap.size (w.heap.size+1) w.heap.size (w.heap.size+2) (((w.alloc (.map #[] 0)).alloc (.cells #[.slice none 0 0,.map (some w.heap.size)] tFd)).alloc (.cells #[.slice none 0 0] tRing)) ([],[]):=by
 have h1:=MapE.new (kv:=strV) w;have s1:(w.alloc (.map #[] 0)).heap.size=w.heap.size+1:=by simp
 have h2:=heap_alloc_new (w.alloc (.map #[] 0)) (.cells #[.slice none 0 0,.map (some w.heap.size)] tFd);rw [s1] at h2;have s2:((w.alloc (.map #[] 0)).alloc (.cells #[.slice none 0 0,.map (some w.heap.size)] tFd)).heap.size=w.heap.size+2:=by simp
 have h3:=heap_alloc_new ((w.alloc (.map #[] 0)).alloc (.cells #[.slice none 0 0,.map (some w.heap.size)] tFd)) (.cells #[.slice none 0 0] tRing);rw [s2] at h3;have f1:=Fut.alloc (w.alloc (.map #[] 0)) (.cells #[.slice none 0 0,.map (some w.heap.size)] tFd);have f2:=Fut.alloc ((w.alloc (.map #[] 0)).alloc (.cells #[.slice none 0 0,.map (some w.heap.size)] tFd)) (.cells #[.slice none 0 0] tRing);exact ⟨.slice none 0 0,.slice none 0 0,⟨f2.block h2,OwnL.nil,(h1.fut f1).fut f2,fun s hs => (by cases hs),by omega,by omega⟩,h3,OwnL.nil,by omega⟩
theorem lim_cells {B fb mb rb:Nat} {W:World} {s:List Eqn×List ByteArray} (h:LimI B fb mb rb W s):∃ A c,W.cell? ⟨rb,0,none⟩=some (.slice A s.1.length c):=by
 obtain ⟨lv,wv,h1,h2,h3,h4⟩:=h;obtain ⟨A,c,rfl,_,_⟩:=h3.rep.form;exact ⟨A,c,cell_at h2 0 _ rfl⟩
theorem eq_one {nb fb mb:Nat} {q:Eqn} {lv1 u1 u2:Value} (W:World) (hok:q.ok) (h1:Nms nb (W.alloc (.cells #[.string q.l,.string q.r,u1,u2] tEq)) u1 q.ls) (h2:Nms nb (W.alloc (.cells #[.string q.l,.string q.r,u1,u2] tEq)) u2 q.rs) (hlt:∀ k,ffoot fb mb lv1 k→k<nb) :
    SlRep 4 1 (REq lv1) (W.alloc (.cells #[.string q.l,.string q.r,u1,u2] tEq)) (.slice (some ⟨W.heap.size,0,none⟩) 1 1) [q] :=
 slOne W [.string q.l,.string q.r,u1,u2] q tEq rfl ⟨u1,u2,rfl,hok,h1.base (Nat.zero_le _),h2.base (Nat.zero_le _),fun k hk e => by
  have g1:=(h1.block k hk).1;have g2:=hlt k (.inr (.inr e));omega,fun k hk e => by
  have g1:=(h2.block k hk).1;have g2:=hlt k (.inr (.inr e));omega⟩
theorem infoLt:(Tryz.prog.info? 120).map (fun i => (i.zero,i.size))=some (some (.agg #[.int .i8 0,.string ⟨#[]⟩,.slice none 0 0,.int .i8 0,.int .i8 0,.string ⟨#[]⟩,.int .i8 0,.int .i64 0,.string ⟨#[]⟩,.slice none 0 0,.int .i8 0,.string ⟨#[]⟩,.int .i8 0,.int .i64 0,.string ⟨#[]⟩,.slice none 0 0]),16):=by kernel_rfl
theorem Lt.cs_one (x:Lt) (A1:Option Addr) (n1 c1:Nat) (A2:Option Addr) (n2 c2:Nat) (A3:Option Addr) (n3 c3:Nat):∀ v ∈ x.cs (.slice A1 n1 c1) (.slice A2 n2 c2) (.slice A3 n3 c3),v.oneCell'=true:=fun v hv => by
 simp only [Lt.cs,List.mem_cons,List.not_mem_nil,or_false] at hv;rcases hv with rfl|rfl|rfl|rfl|rfl|rfl|rfl|rfl|rfl|rfl|rfl|rfl|rfl|rfl|rfl|rfl <;> rfl
def wlen (w:World) (rb:Nat):Nat:=match w.cell? ⟨rb,0,none⟩ with
 | some (.slice _ n _) => n
 | _ => 0
theorem LimI.wlen {B fb mb rb:Nat} {W:World} {s:List Eqn×List ByteArray} (h:LimI B fb mb rb W s):wlen W rb=s.1.length:=by
 obtain ⟨A,c,h1⟩:=lim_cells h;unfold Go.Proofs.YtobabnpllokkaaaGreatDoor.wlen;rw [h1]
set_option maxHeartbeats 4000000 in
set_option maxRecDepth 100000 in
theorem limits_any {M:Nat} (A:Option Addr) (c:Nat) (xb:List Lt) (w:World) (h:SlRep 16 M RLt w (.slice A xb.length c) xb) (hM:M≤9223372036854775807) (hl1:xb.length≤400000000) (hl2:(xb.flatMap Lt.vs).length≤400000000) :
    Calls Tryz.prog 248 #[.slice A xb.length c] w fun e w' => ∃ fb mb lv,e = .returned (.pointer (some ⟨fb,0,none⟩))∧FdSt w.heap.size w' fb mb (limitsB xb) lv∧Fut w w':=by
 obtain ⟨_,_,hv,hc1,hc2⟩:=h.form;have H:=Hh h;have HL2:=Hh hl2;clear h hc1 hc2 hv hl2;obtain ⟨w1,hw1⟩:∃ W,W=((w.alloc (.map #[] 0)).alloc (.cells #[.slice none 0 0,.map (some w.heap.size)] tFd)).alloc (.cells #[.slice none 0 0] tRing):=⟨_,rfl⟩
 have HI:=lim_new w;have F1:Fut w w1:=by rw [hw1];exact ((Fut.alloc w _).trans (Fut.alloc _ _)).trans (Fut.alloc _ _)
 rw [← hw1] at HI;replace HI:=Hh HI;replace F1:=Hh F1;replace hw1:=Hh hw1;have hmm:=@run_makeMap Tryz.prog;go_enter Tryz.func248,Tryz.ntmps248;go_wp2_with fail;clear hmm;rw [← hw1.out];go_loopw [12] (fun i wr => ∃ k:Nat,k≤xb.length∧i = .int .i64 k∧Hid (Fut w wr)∧Hid (LimI w.heap.size (w.heap.size+1) w.heap.size (w.heap.size+2) wr ((xb.take k).foldl stepB ([],[])))) (fun i _ => xb.length - (intOf i).toNat)
 case atStart => exact ⟨0,Nat.zero_le _,rfl,F1,HI⟩
 case round =>
  obtain ⟨k,hk,rfl,hF,hI⟩:=hrel
  by_cases hlt:k<xb.length
  ·have hltI:(k:Int)<xb.length:=by omega
   have e0:(0:Int)≤k∧(k:Int)<xb.length:=by omega
   obtain ⟨b',off,A',c2,Al,l',cl,Ad,d',cd,rfl,hcs,_,_,g3⟩:=lt_at (H.out.fut RLt.stays hF.out) hlt;have hnx:=Hh (show (xb.take (k+1)).foldl stepB ([],[])=stepB ((xb.take k).foldl stepB ([],[])) xb[k] by rw [List.take_succ_eq_append_getElem hlt,List.foldl_append];rfl);have hlen:=foldB_len (xb.take k) ([],[]);have hlv:=bs_le hlt;have hlv2:=HL2.out;rw [List.length_take] at hlen;generalize xb[k]=z at *;obtain ⟨s,hs⟩:∃ s,(xb.take k).foldl stepB ([],[])=s:=⟨_,rfl⟩
   rw [hs] at hI hnx hlen;clear hs
   have hs1:s.1.length≤400000000:=by
    have:s.1.length≤0+min k xb.length:=hlen.1;omega
   have hs2:s.2.length+z.vs.length≤400000000:=by
    have:s.2.length≤0+((xb.take k).flatMap Lt.vs).length:=hlen.2;omega
   clear hlen hlv hlv2
   obtain ⟨nl,Al',el,hl,hl3⟩:∃ n Ak ck,(Value.slice Al l' cl) = .slice Ak z.l.kids.length ck∧RE n wr (z.l.cs (.slice Al l' cl)) z.l:=by
    obtain ⟨n,hn⟩:=g3.left;obtain ⟨Ak,ck,hk⟩:=ex_kv hn;exact ⟨n,Ak,ck,hk,hn⟩
   obtain ⟨nd,Ad',ed,hd,hd3⟩:∃ n Ak ck,(Value.slice Ad d' cd) = .slice Ak z.d.kids.length ck∧RE n wr (z.d.cs (.slice Ad d' cd)) z.d:=by
    obtain ⟨n,hn⟩:=g3.right;obtain ⟨Ak,ck,hk⟩:=ex_kv hn;exact ⟨n,Ak,ck,hk,hn⟩
   injection hl with a1 a2 a3
   subst a1;subst a2;subst a3;injection hd with a1 a2 a3
   subst a1;subst a2;subst a3;have hargs:=Hh g3.args
   have hzv:z.a.length+z.l.size+z.d.size≤400000000:=by
    have:(Lt.vs z).length=z.a.length+(z.l.size+z.d.size):=by
     unfold Lt.vs;rw [List.length_append,List.length_append,List.length_map,Ex.vs_len,Ex.vs_len]
    omega
   have hsa:s.2.length+z.a.length≤400000000:=by
    have:(Lt.vs z).length=z.a.length+(z.l.size+z.d.size):=by
     unfold Lt.vs;rw [List.length_append,List.length_append,List.length_map,Ex.vs_len,Ex.vs_len]
    omega
   clear g3 hs2;replace hl3:=Hh hl3;replace hd3:=Hh hd3;obtain ⟨wb,hwb⟩:∃ W,W=wr.alloc (.cells (z.cs (.slice A' z.a.length c2) (.slice Al z.l.kids.length cl) (.slice Ad z.d.kids.length cd)).toArray 120):=⟨_,rfl⟩
   have f0:Fut wr wb:=by rw [hwb];exact Fut.alloc _ _
   have hbx:wb.heap[wr.heap.size]?=some (.cells (z.cs (.slice A' z.a.length c2) (.slice Al z.l.kids.length cl) (.slice Ad z.d.kids.length cd)).toArray 120 (0,0)):=by rw [hwb];exact heap_alloc_new _ _
   replace hwb:=Hh hwb;have hFb:=Hh (hF.out.trans f0);have hIb:=Hh (hI.out.fut f0);have f0h:=Hh f0;have hbxh:=Hh hbx;have c0:=cell_at hbx 0 (.int .i8 z.k) rfl;have c1:=cell_at hbx 1 (.string z.p) rfl;have c2':=cell_at hbx 2 (.slice A' z.a.length c2) rfl;have c3':=cell_at hbx 3 (.int .i8 z.r) rfl;clear f0 hbx hI;have hone:=Lt.cs_one z A' z.a.length c2 Al z.l.kids.length cl Ad z.d.kids.length cd;have hcs9:=Hh hcs;clear hcs
   by_cases ek:z.k=1
   ·have hst:stepB s z=(s.1,(tmVars z.a).foldl addF s.2):=if_pos ek;have HC:=Hh (atomVars_any z.p A' c2 _ z.a wb (hargs.out.fut RTm.stays f0h.out) (by omega) (by omega));have hvok:=Hh (show ∀ v ∈ tmVars z.a,v.size≤140737488351232 from fun v hv => tm_ok hargs.out v (ddVs_mem hv))
    have hvl:(tmVars z.a).length≤z.a.length:=by
     have:=ddVs_len (z.a.map (·.v));rw [List.length_map] at this;exact this
    rw [hst] at hnx;go_wp2_with (first|(refine wpList_rangeBox (z.cs (.slice A' z.a.length c2) (.slice Al z.l.kids.length cl) (.slice Ad z.d.kids.length cd)) rfl rfl rfl rfl rfl rfl rfl hcs9.out Tryz.underlying120 infoLt rfl hone rfl rfl hwb.out.symm ?_));refine HC.out.mono ?_;rintro e w3 ⟨v,rfl,hv,f3⟩;obtain ⟨A3,c3,rfl,_,_⟩:=hv.rep.form;have HA:=Hh (LimI.add hFb.out hIb.out f3 hv hvok.out (by omega));clear hv f3;go_wp2_with fail;refine HA.out.mono ?_;rintro e w4 ⟨⟨u,rfl⟩,hF4,hI4⟩;have HF4:=Hh hF4;have HI4:=Hh (show LimI w.heap.size (w.heap.size+1) w.heap.size (w.heap.size+2) w4 ((xb.take (k+1)).foldl stepB ([],[])) from by rw [hnx.out];exact hI4);clear hF4 hI4 HA HC;go_wp2;go_roundw
    case rel => exact ⟨k+1,by omega,by go_num,HF4,HI4⟩
    case measure => simp [intOf] <;> omega
   ·by_cases eq:z.k=3∧z.r=1
    ·obtain ⟨ez,er⟩:=eq
     have hst:stepB s z=(s.1++[⟨z.l.lone,z.d.lone,z.l.vars,z.d.vars⟩],s.2):=by
      unfold stepB;exact (if_neg ek).trans (if_pos ⟨ez,er⟩)
     rw [hst] at hnx;obtain ⟨lv1,wv1,i1,i2,i3,i4⟩:=hIb.out;obtain ⟨Aw,cw,rfl,_,_⟩:=i3.rep.form;have hlt1:=i1.lt;have hqok:Eqn.ok ⟨z.l.lone,z.d.lone,z.l.vars,z.d.vars⟩:=⟨Ex.lone_ok hl3.out,Ex.lone_ok hd3.out,fun v hv => RE.vs_ok nl hl3.out v (ddVs_mem hv),fun v hv => RE.vs_ok nd hd3.out v (ddVs_mem hv)⟩
     have hEL:=RE.stays nl _ _ _ _ f0h.out hl3.out;have hED:=RE.stays nd _ _ _ _ f0h.out hd3.out;have z4:=cell_at hbxh.out 4 (.int .i8 z.l.op) rfl;have z5:=cell_at hbxh.out 5 (.string z.l.t.v) rfl;have z6:=cell_at hbxh.out 6 (.int .i8 z.l.t.x.k) rfl;have z7:=cell_at hbxh.out 7 (.int .i64 z.l.t.x.n) rfl;have z8:=cell_at hbxh.out 8 (.string z.l.t.x.s) rfl;have z9:=cell_at hbxh.out 9 (.slice Al z.l.kids.length cl) rfl;have z10:=cell_at hbxh.out 10 (.int .i8 z.d.op) rfl;have z11:=cell_at hbxh.out 11 (.string z.d.t.v) rfl;have z12:=cell_at hbxh.out 12 (.int .i8 z.d.t.x.k) rfl;have z13:=cell_at hbxh.out 13 (.int .i64 z.d.t.x.n) rfl;have z14:=cell_at hbxh.out 14 (.string z.d.t.x.s) rfl;have z15:=cell_at hbxh.out 15 (.slice Ad z.d.kids.length cd) rfl;have yr:=cell_at i2 0 (.slice Aw s.1.length cw) rfl;have K:=Hh (And.intro i1 (And.intro i2 (And.intro i3 i4)));replace hqok:=Hh hqok;replace hlt1:=Hh hlt1;replace hEL:=Hh hEL;replace hED:=Hh hED;clear i1 i2 i3 i4;go_wp2_with (first|(refine wpList_rangeBox (z.cs (.slice A' z.a.length c2) (.slice Al z.l.kids.length cl) (.slice Ad z.d.kids.length cd)) rfl rfl rfl rfl rfl rfl rfl hcs9.out Tryz.underlying120 infoLt rfl hone rfl rfl hwb.out.symm ?_));refine wp_graph 16 [.d,.d,.d,.d,.d,.d,.d,.d,.d,.d,.r (fun v W => Nms wb.heap.size W v z.l.vars),.d,.d,.r (fun v W => Nms wb.heap.size W v z.d.vars),.r (fun v W => ∃ u1 u2,v = .agg #[.string z.l.lone,.string z.d.lone,u1,u2]∧Nms wb.heap.size W u1 z.l.vars∧Nms wb.heap.size W u2 z.d.vars),.r (fun v W => (∃ A,v = .slice A 1 1)∧SlRep 4 1 (REq lv1) W v [⟨z.l.lone,z.d.lone,z.l.vars,z.d.vars⟩])] (by kernel_rfl) (by kernel_rfl) (by kernel_rfl) ?_;simp only [takS,Exs]
     iterate 12 apply Exists.intro
     apply Run.valG (wanted_none rfl _)
     ·intro w1 h1 hk;go_simp;rfl
     simp only [actS];apply Run.valG (wanted_none rfl _)
     ·intro w1 h1 hk;have q4:=h1.cell z4;have q5:=h1.cell z5;have q6:=h1.cell z6;have q7:=h1.cell z7;have q8:=h1.cell z8;have q9:=h1.cell z9;have q10:=h1.cell z10;have q11:=h1.cell z11;have q12:=h1.cell z12;have q13:=h1.cell z13;have q14:=h1.cell z14;have q15:=h1.cell z15;have qr:=h1.cell yr;have hg:=(Fut.drew _).trans h1;have hgs:=hg.size;have hcw:=fun b o => Below.cell (p:=⟨b,o,none⟩) h1;go_simp;rfl
     simp only [actS];apply Run.valG (wanted_none rfl _)
     ·intro w1 h1 hk;go_simp;rfl
     simp only [actS];apply Run.valG (wanted_none rfl _)
     ·intro w1 h1 hk;have q4:=h1.cell z4;have q5:=h1.cell z5;have q6:=h1.cell z6;have q7:=h1.cell z7;have q8:=h1.cell z8;have q9:=h1.cell z9;have q10:=h1.cell z10;have q11:=h1.cell z11;have q12:=h1.cell z12;have q13:=h1.cell z13;have q14:=h1.cell z14;have q15:=h1.cell z15;have qr:=h1.cell yr;have hg:=(Fut.drew _).trans h1;have hgs:=hg.size;have hcw:=fun b o => Below.cell (p:=⟨b,o,none⟩) h1;go_simp;rfl
     simp only [actS];apply Run.call (wanted_none rfl _) (fun _ _ => by go_simp;exact ⟨rfl,rfl⟩)
     ·intro w1 h1 hk;have q4:=h1.cell z4;have q5:=h1.cell z5;have q6:=h1.cell z6;have q7:=h1.cell z7;have q8:=h1.cell z8;have q9:=h1.cell z9;have q10:=h1.cell z10;have q11:=h1.cell z11;have q12:=h1.cell z12;have q13:=h1.cell z13;have q14:=h1.cell z14;have q15:=h1.cell z15;have qr:=h1.cell yr;have hg:=(Fut.drew _).trans h1;have hgs:=hg.size;exact loneT_any z.l Al cl _
     simp only [actS];apply Run.valG (wanted_none rfl _)
     ·intro w1 h1 hk;go_simp;rfl
     simp only [actS];apply Run.valG (wanted_none rfl _)
     ·intro w1 h1 hk;have q4:=h1.cell z4;have q5:=h1.cell z5;have q6:=h1.cell z6;have q7:=h1.cell z7;have q8:=h1.cell z8;have q9:=h1.cell z9;have q10:=h1.cell z10;have q11:=h1.cell z11;have q12:=h1.cell z12;have q13:=h1.cell z13;have q14:=h1.cell z14;have q15:=h1.cell z15;have qr:=h1.cell yr;have hg:=(Fut.drew _).trans h1;have hgs:=hg.size;have hcw:=fun b o => Below.cell (p:=⟨b,o,none⟩) h1;go_simp;rfl
     simp only [actS];apply Run.call (wanted_none rfl _) (fun _ _ => by go_simp;exact ⟨rfl,rfl⟩)
     ·intro w1 h1 hk;have q4:=h1.cell z4;have q5:=h1.cell z5;have q6:=h1.cell z6;have q7:=h1.cell z7;have q8:=h1.cell z8;have q9:=h1.cell z9;have q10:=h1.cell z10;have q11:=h1.cell z11;have q12:=h1.cell z12;have q13:=h1.cell z13;have q14:=h1.cell z14;have q15:=h1.cell z15;have qr:=h1.cell yr;have hg:=(Fut.drew _).trans h1;have hgs:=hg.size;exact loneT_any z.d Ad cd _
     simp only [actS];apply Run.valG (wanted_none rfl _)
     ·intro w1 h1 hk;go_simp;rfl
     simp only [actS];apply Run.valG (wanted_none rfl _)
     ·intro w1 h1 hk;have q4:=h1.cell z4;have q5:=h1.cell z5;have q6:=h1.cell z6;have q7:=h1.cell z7;have q8:=h1.cell z8;have q9:=h1.cell z9;have q10:=h1.cell z10;have q11:=h1.cell z11;have q12:=h1.cell z12;have q13:=h1.cell z13;have q14:=h1.cell z14;have q15:=h1.cell z15;have qr:=h1.cell yr;have hg:=(Fut.drew _).trans h1;have hgs:=hg.size;have hcw:=fun b o => Below.cell (p:=⟨b,o,none⟩) h1;go_simp;rfl
     simp only [actS];apply Run.callR (wanted_none rfl _) (by intro v w w' hf hs;exact hs.fut RNm.stays hf) (fun _ _ => by go_simp;exact ⟨rfl,rfl⟩)
     ·intro w1 h1 hk;have q4:=h1.cell z4;have q5:=h1.cell z5;have q6:=h1.cell z6;have q7:=h1.cell z7;have q8:=h1.cell z8;have q9:=h1.cell z9;have q10:=h1.cell z10;have q11:=h1.cell z11;have q12:=h1.cell z12;have q13:=h1.cell z13;have q14:=h1.cell z14;have q15:=h1.cell z15;have qr:=h1.cell yr;have hg:=(Fut.drew _).trans h1;have hgs:=hg.size;refine (exprVars_any z.l Al cl nl _ (RE.stays nl _ _ _ _ hg hEL.out) (by omega)).mono ?_;rintro e w' ⟨v,rfl,ho,hf⟩;exact ⟨_,rfl,hf,ho.base hgs⟩
     intro v10;simp only [actS];apply Run.valG (wanted_none rfl _)
     ·intro w1 h1 hk;go_simp;rfl
     simp only [actS];apply Run.valG (wanted_none rfl _)
     ·intro w1 h1 hk;have q4:=h1.cell z4;have q5:=h1.cell z5;have q6:=h1.cell z6;have q7:=h1.cell z7;have q8:=h1.cell z8;have q9:=h1.cell z9;have q10:=h1.cell z10;have q11:=h1.cell z11;have q12:=h1.cell z12;have q13:=h1.cell z13;have q14:=h1.cell z14;have q15:=h1.cell z15;have qr:=h1.cell yr;have hg:=(Fut.drew _).trans h1;have hgs:=hg.size;have hcw:=fun b o => Below.cell (p:=⟨b,o,none⟩) h1;go_simp;rfl
     simp only [actS];apply Run.callR (wanted_none rfl _) (by intro v w w' hf hs;exact hs.fut RNm.stays hf) (fun _ _ => by go_simp;exact ⟨rfl,rfl⟩)
     ·intro w1 h1 hk;have f10:=Facts.get hk 0 rfl (by kernel_rfl);have q4:=h1.cell z4;have q5:=h1.cell z5;have q6:=h1.cell z6;have q7:=h1.cell z7;have q8:=h1.cell z8;have q9:=h1.cell z9;have q10:=h1.cell z10;have q11:=h1.cell z11;have q12:=h1.cell z12;have q13:=h1.cell z13;have q14:=h1.cell z14;have q15:=h1.cell z15;have qr:=h1.cell yr;have hg:=(Fut.drew _).trans h1;have hgs:=hg.size;refine (exprVars_any z.d Ad cd nd _ (RE.stays nd _ _ _ _ hg hED.out) (by omega)).mono ?_;rintro e w' ⟨v,rfl,ho,hf⟩;exact ⟨_,rfl,hf,ho.base hgs⟩
     intro v13;simp only [actS];apply Run.valR (wanted_none rfl _) (by intro v w w' hf hs;exact (by obtain ⟨u1,u2,g1,g2,g3⟩:=hs;exact ⟨u1,u2,g1,g2.fut RNm.stays hf,g3.fut RNm.stays hf⟩))
     ·intro w1 h1 hk;have f10:=Facts.get hk 0 rfl (by kernel_rfl);have f13:=Facts.get hk 1 rfl (by kernel_rfl);have q4:=h1.cell z4;have q5:=h1.cell z5;have q6:=h1.cell z6;have q7:=h1.cell z7;have q8:=h1.cell z8;have q9:=h1.cell z9;have q10:=h1.cell z10;have q11:=h1.cell z11;have q12:=h1.cell z12;have q13:=h1.cell z13;have q14:=h1.cell z14;have q15:=h1.cell z15;have qr:=h1.cell yr;have hg:=(Fut.drew _).trans h1;have hgs:=hg.size;obtain ⟨A9,c9,rfl,_,_⟩:=f10.rep.form;obtain ⟨A8,c8,rfl,_,_⟩:=f13.rep.form;go_simp;exact ⟨_,_,⟨rfl,rfl⟩,Fut.refl _,_,_,rfl,f10,f13⟩
     intro v14;simp only [actS];apply Run.valR (wanted_none rfl _) (by intro v w w' hf hs;exact ⟨hs.1,hs.2.fut REq.stays hf⟩)
     ·intro w1 h1 hk;have f14:=Facts.get hk 2 rfl (by kernel_rfl);have q4:=h1.cell z4;have q5:=h1.cell z5;have q6:=h1.cell z6;have q7:=h1.cell z7;have q8:=h1.cell z8;have q9:=h1.cell z9;have q10:=h1.cell z10;have q11:=h1.cell z11;have q12:=h1.cell z12;have q13:=h1.cell z13;have q14:=h1.cell z14;have q15:=h1.cell z15;have qr:=h1.cell yr;have hg:=(Fut.drew _).trans h1;have hgs:=hg.size;obtain ⟨u1,u2,rfl,g1,g2⟩:=f14;obtain ⟨A9,c9,rfl,_,_⟩:=g1.rep.form;obtain ⟨A8,c8,rfl,_,_⟩:=g2.rep.form;go_simp;exact ⟨_,_,⟨rfl,rfl⟩,Fut.alloc _ _,⟨_,rfl⟩,eq_one w1 hqok.out (g1.fut RNm.stays (Fut.alloc _ _)) (g2.fut RNm.stays (Fut.alloc _ _)) hlt1.out⟩
     intro v15;simp only [actS];apply Run.done;intro w2 h2 hk;obtain ⟨f10,f13,f14,f15,_⟩:=hk;obtain ⟨⟨A5,rfl⟩,hS5⟩:=f15;have F3:=(Fut.drew _).trans h2;obtain ⟨i1,i2,i3,i4⟩:=K.out;replace hS5:=Hh hS5;have HW:=Hh fun w' v' => lim_wait (w':=w') (v':=v') (q:=⟨z.l.lone,z.d.lone,z.l.vars,z.d.vars⟩) (hFb.out.trans F3) (i1.fut F3) (F3.block i2) (i3.fut REq.stays F3) i4;have HO:=Hh (i3.fut REq.stays F3);have hbz:=(hFb.out.trans F3).size;clear i1 i2 i3 i4 F3 h2 K f10 f13 f14;go_wp2_with (first|(at_builtin;refine wpList_append_LB (R:=REq lv1) (B:=w.heap.size) (M:=1) (xs:=s.1) (ys:=[⟨z.l.lone,z.d.lone,z.l.vars,z.d.vars⟩]) (e:=381) (by go_simp) _ _ tEqs rfl Tryz.underlying374 (.agg #[.string ⟨#[]⟩,.string ⟨#[]⟩,.slice none 0 0,.slice none 0 0]) 80 infoEq rfl (by decide) REq.one REq.keeps rfl rfl HO.out hS5.out ?l3 ?l4 ?b3 ?k3))
     case l3 => simp [maxLen];omega
     case l4 => simp;omega
     case b3 => exact hbz
     case k3 =>
     intro v' w' o' g' sn';obtain ⟨c0,c1,HF5,HI5⟩:=HW.out w' v' o' g';obtain ⟨A8,c8,rfl,_,_⟩:=o'.rep.form;rw [List.length_append,List.length_singleton] at HF5 HI5 ⊢;obtain ⟨w5,hw5⟩:∃ W,w'.setCell ⟨w.heap.size+2,0,none⟩ (.slice A8 (s.1.length+1) c8)=W:=⟨_,rfl⟩
     rw [hw5] at HF5 HI5;replace HF5:=Hh HF5;rw [← hnx.out] at HI5;replace HI5:=Hh HI5;have hi2:=infoEqs;clear o' g' sn' HW HO;go_wp2_with (first|(refine wpList_store_1 (wanted_none rfl _) _ _ rfl rfl rfl hi2 rfl c0 c1 hw5 ?_));clear hw5 c0 c1;go_wp2;go_roundw
     case rel => exact ⟨k+1,by omega,by go_num,HF5,HI5⟩
     case measure => simp [intOf] <;> omega
    ·have hst:stepB s z=s:=by
       unfold stepB;exact (if_neg ek).trans (if_neg eq)
     have HI5:=Hh (show LimI w.heap.size (w.heap.size+1) w.heap.size (w.heap.size+2) wb ((xb.take (k+1)).foldl stepB ([],[])) from by rw [hnx.out,hst];exact hIb.out)
     by_cases e3:z.k=3
     ·have e4:¬ z.r=1:=fun h => eq ⟨e3,h⟩;clear eq hst;go_wp2_with (first|(refine wpList_rangeBox (z.cs (.slice A' z.a.length c2) (.slice Al z.l.kids.length cl) (.slice Ad z.d.kids.length cd)) rfl rfl rfl rfl rfl rfl rfl hcs9.out Tryz.underlying120 infoLt rfl hone rfl rfl hwb.out.symm ?_));go_roundw
      case rel => exact ⟨k+1,by omega,by go_num,hFb,HI5⟩
      case measure => simp [intOf] <;> omega
     ·clear eq hst;go_wp2_with (first|(refine wpList_rangeBox (z.cs (.slice A' z.a.length c2) (.slice Al z.l.kids.length cl) (.slice Ad z.d.kids.length cd)) rfl rfl rfl rfl rfl rfl rfl hcs9.out Tryz.underlying120 infoLt rfl hone rfl rfl hwb.out.symm ?_));go_roundw
      case rel => exact ⟨k+1,by omega,by go_num,hFb,HI5⟩
      case measure => simp [intOf] <;> omega
  ·obtain rfl:k=xb.length:=by omega
   rw [List.take_length] at hI;have hlen:=foldB_len xb ([],[]);have hl9:=HL2.out;have hst:=Hh (show limitsB xb=loopE ((beginB xb).1.length+1) (beginB xb).1 (beginB xb).2 from rfl);have hI2:=Hh (show LimI w.heap.size (w.heap.size+1) w.heap.size (w.heap.size+2) wr ((beginB xb).1,(beginB xb).2) from hI.out)
   have hb2:=Hh (show (beginB xb).2.length+(beginB xb).1.length≤1000000000 from by
    unfold beginB;have h1:(xb.foldl stepB ([],[])).1.length≤0+xb.length:=hlen.1;have h2:(xb.foldl stepB ([],[])).2.length≤0+(xb.flatMap Lt.vs).length:=hlen.2;omega)
   clear hlen hl9 hI F1 HI hw1;obtain ⟨Lx,hLx⟩:∃ x,limitsB xb=x:=⟨_,rfl⟩
   rw [hLx] at hst;replace hLx:=Hh hLx;go_wp2_with fail;go_loopw [] (fun W => ∃ qs L,Hid (Fut w W)∧Hid (LimI w.heap.size (w.heap.size+1) w.heap.size (w.heap.size+2) W (qs,L))∧Hid (L.length+qs.length≤1000000000)∧Hid (Lx=loopE (qs.length+1) qs L)) (fun W => wlen W (w.heap.size+2))
   case atStart => exact ⟨_,_,hF,hI2,hb2,hst⟩
   case round =>
    obtain ⟨qs,L,hF,hI,hb,hX⟩:=hrel;have HC:=Hh (LimI.round hF.out hI.out hb.out)
    by_cases e:(roundE qs L).1.length<qs.length
    ·rw [decide_eq_true e] at HC;have hX2:=Hh (hX.out.trans (loopE_go e))
     have hb3:=Hh (show (roundE qs L).2.length+(roundE qs L).1.length≤1000000000 from by
      have h1:=roundE_sum qs L;have h2:=hb.out;omega)
     have he:=Hh e;have hwl:=Hh hI.out.wlen;clear e;go_wp2_with fail;refine HC.out.mono ?_;rintro e w3 ⟨rfl,hF3,hI3⟩;have hwl3:=Hh hI3.wlen;replace hF3:=Hh hF3;replace hI3:=Hh hI3;clear HC;go_wp2;go_roundw
     case rel => exact ⟨_,_,hF3,hI3,hb3,hX2⟩
     case measure =>
      have h1:=hwl.out;have h2:=hwl3.out;have h3:=he.out;simp only [h1,h2];exact h3
    ·rw [decide_eq_false e] at HC;have hX2:=Hh (hX.out.trans (loopE_stop e));clear e;go_wp2_with fail;refine HC.out.mono ?_;rintro e w3 ⟨rfl,hF3,hI3⟩;replace hF3:=Hh hF3;replace hI3:=Hh hI3;clear HC;go_wp2;go_ret;obtain ⟨lv,wv,g1,_⟩:=hI3.out;refine ⟨_,w.heap.size,lv,rfl,?_,hF3.out⟩;rw [hLx.out,hX2.out];exact g1
theorem Ex.size_pos (x:Ex):1≤x.size:=by
 obtain ⟨op,t,ks⟩:=x;unfold Ex.size;omega
theorem b_le_bs:∀ l:List Lt,l.length≤(l.flatMap Lt.vs).length
 | [] => by simp
 | x :: r => by
  rw [List.length_cons,List.flatMap_cons,List.length_append];have h1:=b_le_bs r
  have h2:1≤x.vs.length:=by
   unfold Lt.vs;rw [List.length_append,List.length_append,Ex.vs_len];have:=x.l.size_pos;omega
  omega
theorem LtC.vs_ok {w:World} {x:Lt} {av kl kd:Value} (h:LtC w x av kl kd):∀ v ∈ x.vs,v.size≤140737488351232:=fun v hv => by
 unfold Lt.vs at hv;rcases List.mem_append.1 hv with hv|hv
 ·exact tm_ok h.args v hv
 ·rcases List.mem_append.1 hv with hv|hv
  ·obtain ⟨n,hn⟩:=h.left;exact RE.vs_ok n hn v hv
  ·obtain ⟨n,hn⟩:=h.right;exact RE.vs_ok n hn v hv
theorem heads_ok {M:Nat} {w:World} {v:Value} {xs:List Ar} (h:SlRep 5 M RAr w v xs):∀ x ∈ xs.map (·.t.v),x.size≤140737488351232:=fun x hx => by
 obtain ⟨t,ht,rfl⟩:=List.mem_map.1 hx;obtain ⟨cs,_,_,hok⟩:=sl_mem h t ht;exact hok.1
theorem body_ok {M:Nat} {w:World} {v:Value} {xs:List Lt} (h:SlRep 16 M RLt w v xs):∀ x ∈ xs.flatMap Lt.vs,x.size≤140737488351232:=fun x hx => by
 obtain ⟨t,ht,hv⟩:=List.mem_flatMap.1 hx;obtain ⟨cs,hr⟩:=sl_mem h t ht;obtain ⟨A,c,Al,l,cl,Ad,d,cd,_,_,_,hc⟩:=lt_cs hr;exact hc.vs_ok x hv
theorem Ru.vars_ok {M M':Nat} {w:World} {hv bv:Value} {x:Ru} (h1:SlRep 5 M RAr w hv x.h) (h2:SlRep 16 M' RLt w bv x.b):∀ v ∈ x.vars,v.size≤140737488351232:=fun v hv => by
 rcases List.mem_append.1 (ddVs_mem hv) with hv|hv
 ·exact heads_ok h1 v hv
 ·exact body_ok h2 v hv
set_option maxHeartbeats 2000000 in
set_option maxRecDepth 100000 in
theorem rule_any (x:Ru) (Ah Ab:Option Addr) (ch cb:Nat) (w:World) (hp:x.p.size≤140737488351232) (h1:SlRep 5 2513169434916 RAr w (.slice Ah x.h.length ch) x.h) (h2:SlRep 16 651562446089 RLt w (.slice Ab x.b.length cb) x.b) (hl:x.hs.length+x.bs.length≤400000000) :
    Calls Tryz.prog 247 #[.agg #[.string x.p,.slice Ah x.h.length ch,.slice Ab x.b.length cb]] w fun e w' => e = .returned (.int .i64 x.errno)∧Fut w w':=by
 have HC:=Hh (fun W (hW:Fut w W) => checkR_any x Ah Ab ch cb W hp (h1.fut RAr.stays hW) (h2.fut RLt.stays hW) (by omega));have HV:=Hh (fun W (hW:Fut w W) => ruleVars_any x Ah Ab ch cb W (h1.fut RAr.stays hW) (h2.fut RLt.stays hW) (by omega));have hbs:=b_le_bs x.b;have HL:=Hh (fun W (hW:Fut w W) => limits_any Ab cb x.b W (h2.fut RLt.stays hW) (by omega) (by unfold Ru.bs at hl;omega) (by unfold Ru.bs at hl;omega));have HO:=Hh (x.vars_ok h1 h2)
 have hvl:x.vars.length≤400000000:=by
  have:=ddVs_len (x.hs++x.bs);rw [List.length_append] at this;unfold Ru.vars;omega
 obtain ⟨er,her⟩:∃ e,x.errno=e:=⟨_,rfl⟩
 rw [her];unfold Ru.errno Ru.safe at her;obtain ⟨vs,hvs⟩:∃ v,x.vars=v:=⟨_,rfl⟩
 obtain ⟨Lx,hLx⟩:∃ v,limitsB x.b=v:=⟨_,rfl⟩
 rw [hvs] at HV HO hvl her;rw [hLx] at HL her;obtain ⟨gd,hgd⟩:∃ g,x.good=g:=⟨_,rfl⟩
 rw [hgd] at HC her;replace hvl:=Hh hvl;clear h1 h2 hl hbs hvs hLx hgd;obtain ⟨p,xh,xb⟩:=x;dsimp only at *;generalize xh.length=n at *;generalize xb.length=m at *;have hbx:=heap_alloc_new w (.cells #[.string p,.slice Ah n ch,.slice Ab m cb] 82);have f0:=Fut.alloc w (.cells #[.string p,.slice Ah n ch,.slice Ab m cb] 82);cases gd
 ·obtain rfl:er=40:=by rw [← her];rfl
  clear her;go_enter Tryz.func247,Tryz.ntmps247;go_wp2_with fail;refine (HC.out _ f0).mono ?_;rintro e w1 ⟨rfl,f1⟩;go_wp2;go_ret;exact ⟨rfl,f0.trans f1⟩
 ·have her2:=Hh (show (if allIn Lx vs=true then (0:Int) else 73)=er from her);clear her;go_enter Tryz.func247,Tryz.ntmps247;go_wp2_with fail;refine (HC.out _ f0).mono ?_;rintro e w1 ⟨rfl,f1⟩;have F1:=Hh (f0.trans f1);have c0:=cell_at (f1.block hbx) 0 (.string p) rfl;have c1:=cell_at (f1.block hbx) 1 (.slice Ah n ch) rfl;have c2:=cell_at (f1.block hbx) 2 (.slice Ab m cb) rfl;clear f0 f1 hbx HC;go_wp2_with fail;refine wp_graph 7 [.d,.d,.r (fun v W => ∃ fb mb lv,v = .pointer (some ⟨fb,0,none⟩)∧FdSt w.heap.size W fb mb Lx lv),.d,.r (fun v W => Nms w.heap.size W v vs),.d,.d] (by kernel_rfl) (by kernel_rfl) (by kernel_rfl) ?_;simp only [takS,Exs]
  iterate 5 apply Exists.intro
  apply Run.valG (wanted_none rfl _)
  ·intro w1 h1 hk;go_simp;rfl
  simp only [actS];apply Run.valG (wanted_none rfl _)
  ·intro w1 h1 hk;have q0:=h1.cell c0;have q1:=h1.cell c1;have q2:=h1.cell c2;have hg:=F1.out.trans ((Fut.drew _).trans h1);have hcw:=fun b o => Below.cell (p:=⟨b,o,none⟩) h1;go_simp;rfl
  simp only [actS];apply Run.callR (wanted_none rfl _) (by intro v w w' hf hs;exact (by obtain ⟨fb,mb,lv,g1,g2⟩:=hs;exact ⟨fb,mb,lv,g1,g2.fut hf⟩)) (fun _ _ => by go_simp;exact ⟨rfl,rfl⟩)
  ·intro w1 h1 hk;have q0:=h1.cell c0;have q1:=h1.cell c1;have q2:=h1.cell c2;have hg:=F1.out.trans ((Fut.drew _).trans h1);refine (HL.out _ hg).mono ?_;rintro e w' ⟨fb,mb,lv,rfl,g1,hf⟩;exact ⟨_,rfl,hf,fb,mb,lv,rfl,⟨g1.cell,g1.list.base hg.size,g1.map,g1.sizes,Nat.le_trans hg.size g1.low.1,Nat.le_trans hg.size g1.low.2⟩⟩
  intro v2;simp only [actS];apply Run.valG (wanted_none rfl _)
  ·intro w1 h1 hk;have q0:=h1.cell c0;have q1:=h1.cell c1;have q2:=h1.cell c2;have hg:=F1.out.trans ((Fut.drew _).trans h1);have hcw:=fun b o => Below.cell (p:=⟨b,o,none⟩) h1;go_simp;rfl
  simp only [actS];apply Run.callR (wanted_none rfl _) (by intro v w w' hf hs;exact hs.fut RNm.stays hf) (fun _ _ => by go_simp;exact ⟨rfl,rfl⟩)
  ·intro w1 h1 hk;have f2:=Facts.get hk 0 rfl (by kernel_rfl);have q0:=h1.cell c0;have q1:=h1.cell c1;have q2:=h1.cell c2;have hg:=F1.out.trans ((Fut.drew _).trans h1);refine (HV.out _ hg).mono ?_;rintro e w' ⟨v,rfl,g1,hf⟩;exact ⟨_,rfl,hf,g1.base hg.size⟩
  intro v4;simp only [actS];apply Run.call (wanted_none rfl _) (fun _ _ => by go_simp;exact ⟨rfl,rfl⟩)
  ·intro w1 h1 hk;have f2:=Facts.get hk 0 rfl (by kernel_rfl);have f4:=Facts.get hk 1 rfl (by kernel_rfl);have q0:=h1.cell c0;have q1:=h1.cell c1;have q2:=h1.cell c2;have hg:=F1.out.trans ((Fut.drew _).trans h1);obtain ⟨fb,mb,lv,rfl,g1⟩:=f2;obtain ⟨A,c,rfl,_,_⟩:=f4.rep.form;refine (allF_any A c vs _ g1 f4.rep (by unfold maxLen;omega) HO.out).mono ?_;rintro e w' ⟨rfl,rfl⟩;exact ⟨rfl,Fut.refl _⟩
  simp only [actS];apply Run.valG (wanted_none rfl _)
  ·intro w1 h1 hk;go_simp;rfl
  simp only [actS];apply Run.done;intro w2 h2 hk;obtain ⟨f2,f4,_⟩:=hk;have F2:=Hh (F1.out.trans ((Fut.drew _).trans h2));clear h2 c0 c1 c2 f2 f4;obtain ⟨a,ha⟩:∃ a,allIn Lx vs=a:=⟨_,rfl⟩
  rw [ha] at her2 ⊢;clear ha;cases a
  ·obtain rfl:er=73:=by rw [← her2.out];rfl
   go_wp2;go_ret;exact ⟨rfl,F2.out⟩
  ·obtain rfl:er=0:=by rw [← her2.out];rfl
   go_wp2;go_ret;exact ⟨rfl,F2.out⟩
def RL0 (w0:World) (_:World) (cs:List Value) (x:Lt):Prop:=RLt w0 cs x
theorem RL0.stays {w0:World}:Stays (RL0 w0):=fun _ _ _ _ _ h => h
theorem RL0.keeps {w0:World} {e:TypeId}:Keeps e (RL0 w0):=fun _ _ _ _ _ h _ _ => h
theorem RL0.one {w0:World}:∀ (w:World) cs x,RL0 w0 w cs x→∀ u ∈ cs,u.oneCell'=true:=fun w cs x h u hu => by
 obtain ⟨A,c,Al,l,cl,Ad,d,cd,rfl,_⟩:=lt_cs (show RLt w0 cs x from h);exact Lt.cs_one x A x.a.length c Al l cl Ad d cd u hu
theorem infoLtF:(Tryz.prog.info? 120).map (fun i => (i.zero,i.size,i.bytes))=some (some (.agg #[.int .i8 0,.string ⟨#[]⟩,.slice none 0 0,.int .i8 0,.int .i8 0,.string ⟨#[]⟩,.int .i8 0,.int .i64 0,.string ⟨#[]⟩,.slice none 0 0,.int .i8 0,.string ⟨#[]⟩,.int .i8 0,.int .i64 0,.string ⟨#[]⟩,.slice none 0 0]),16,216):=by kernel_rfl
theorem infoLtS:(Tryz.prog.info? 120).map (·.size)=some 16:=by kernel_rfl
theorem set_fold:∀ (l:List Value) (k:Nat) (arr:Array Value),k+l.length≤arr.size→(l.zipIdx k).foldl (fun cs (x:Value×Nat) => cs.setIfInBounds (0+x.2) x.1) arr=(arr.toList.take k++l++arr.toList.drop (k+l.length)).toArray
 | [],k,arr,h => by simp
 | v :: r,k,arr,h => by
  rw [List.length_cons] at h;rw [List.zipIdx_cons,List.foldl_cons,set_fold r (k+1) _ (by simp;omega)];congr 1;have hk:k<arr.toList.length:=by simp;omega
  rw [show 0+k=k by omega,Array.toList_setIfInBounds,List.take_set,List.drop_set];simp only [show ¬ k+1+r.length≤k by omega,if_false];rw [List.set_eq_take_append_cons_drop];simp only [List.length_take,show k<min (k+1) arr.toList.length by omega,if_true];rw [List.take_take,show min k (k+1)=k by omega,List.drop_take];simp [List.length_cons,show k+1+r.length=k+(r.length+1) by omega]
theorem run_slice1 {P:Program} {t e:TypeId} {cs:List Value} {z:Value} {n m:Nat} (ht:P.underlying t=some (.slice e)) (hi:(P.info? e).map (fun i => (i.zero,i.size,i.bytes))=some (some z,n,m)) (hn:cs.length=n) (hzs:z.cells.size=n) (hp:0<n) (hsm:n≤2 ^ 24) (w:World) :
    (Instr.buildSlice t 1 #[(0,.agg cs.toArray)]).run P w = .ok (.slice (some ⟨w.heap.size,0,none⟩) 1 1) (w.alloc (.cells cs.toArray e)):=by
 obtain ⟨i,hq,hz,hs,_⟩:=info_parts hi;refine run_buildSlice w t e 1 _ _ i z ht hq hz (by rw [hs];omega) (by rw [hs];omega) ?_;rw [hs];unfold Instr.fill Instr.fill;simp only [Nat.zero_mul,Nat.one_mul];have e1:(Value.agg cs.toArray).cells=cs.toArray:=rfl;rw [e1];rw [if_neg (by simp;omega)];congr 1;rw [← Array.foldl_toList,Array.toList_zipIdx];have h9:=set_fold cs 0 ((Array.range n).map (z.cells[· % z.cells.size]!)) (by simp;omega);rw [h9];simp;omega
theorem wpList_slice1 {P:Program} {ops:Array Oper} {rest:List Oper} {o:Oper} {a:Act} {w:World} {Q:Exit→Act→World→Prop} {t e:TypeId} {cs:List Value} {z:Value} {n m:Nat} (hg:o.guard=none) (x:Operand) (ho:o.op = .buildSlice t 1 #[(0,x)]) (hx:a.eval x = .agg cs.toArray)
    (ht:P.underlying t=some (.slice e)) (hi:(P.info? e).map (fun i => (i.zero,i.size,i.bytes))=some (some z,n,m)) (hn:cs.length=n) (hzs:z.cells.size=n) (hp:0<n) (hsm:n≤2 ^ 24)
    (h:wpList P ops Q rest (a.put o.dst (.slice (some ⟨w.heap.size,0,none⟩) 1 1)) (w.alloc (.cells cs.toArray e))):wpList P ops Q (o :: rest) a w:=by
 refine wpList_of_run (wanted_none hg _) (v:=.slice (some ⟨w.heap.size,0,none⟩) 1 1) (w':=w.alloc (.cells cs.toArray e)) ?_ h;unfold execOp;have h1:(#[((0:Nat),x)].map fun (i,x) => (i,a.eval x))=#[(0,.agg cs.toArray)]:=by simp [hx]
 simp only [ho,h1,Sem.run_bind,Sem.run_pure,Result.andThen_ok,run_slice1 ht hi hn hzs hp hsm]
end Go.Proofs.YtobabnpllokkaaaGreatDoor
namespace Go.Proofs.YtobabnpllokkaaaGreatDoor
open Go.RowKit
def Ar.agg (a:Ar):Bool:=!decide (a.g=0)
def Ru.agg (r:Ru):Bool:=r.h.any Ar.agg
set_option maxHeartbeats 1600000 in
theorem agg1_any (a:Ar) (w:World):Calls Tryz.prog 252 #[.agg #[.int .i8 a.g,.string a.t.v,.int .i8 a.t.x.k,.int .i64 a.t.x.n,.string a.t.x.s]] w fun e w' => e = .returned (.bool a.agg)∧Fut w w':=by
 by_cases h:a.g=0
 ·have h1:a.agg=false:=by unfold Ar.agg;rw [h];rfl
  rw [h1];go_enter Tryz.func252,Tryz.ntmps252;go_wp2;go_ret;exact ⟨by first|rfl|simp [h],Fut.alloc _ _⟩
 ·have h1:a.agg=true:=by unfold Ar.agg;rw [decide_eq_false h];rfl
  rw [h1];go_enter Tryz.func252,Tryz.ntmps252;go_wp2;go_ret;exact ⟨by first|rfl|simp [h],Fut.alloc _ _⟩
set_option maxHeartbeats 1600000 in
set_option maxRecDepth 100000 in
theorem idxG_any {M:Nat} (A:Option Addr) (c:Nat) (xs:List Ar) (w:World) (h:SlRep 5 M RAr w (.slice A xs.length c) xs) (hM:M≤9223372036854775807) :
    Calls Tryz.prog 279 #[.slice A xs.length c,.func (.func 252) #[] #[]] w fun e w' => ∃ r:Int,e = .returned (.int .i64 r)∧decide (0≤r)=xs.any Ar.agg∧Fut w w':=by
 have H:=Hh h;obtain ⟨_,_,hv,hl1,hl2⟩:=h.form;have hxl:xs.length≤9223372036854775807:=by omega
 clear h hv hl1 hl2;go_enter Tryz.func279,Tryz.ntmps279;go_wp2_with fail;go_loopw [8] (fun i wr => ∃ k:Nat,k≤xs.length∧i = .int .i64 k∧Hid (∀ x ∈ xs.take k,x.agg=false)∧Hid (Fut w wr)) (fun i _ => xs.length - (intOf i).toNat)
 case atStart => exact ⟨0,Nat.zero_le _,rfl,Hh (fun x hx => by simp at hx),Hh (Fut.refl _)⟩
 case round =>
  obtain ⟨k,hk,rfl,hI,hF⟩:=hrel
  by_cases hlt:k<xs.length
  ·have hltI:(k:Int)<xs.length:=by omega
   have e0:(0:Int)≤k∧(k:Int)<xs.length:=by omega
   obtain ⟨b,off,rfl,_,_,y0,y1,y2,y3,y4⟩:=ar_at (H.out.fut RAr.stays hF.out) hlt;have hnx:Hid (xs.take (k+1)=xs.take k++[xs[k]]):=Hh (List.take_succ_eq_append_getElem hlt);have hmem:xs[k] ∈ xs:=List.getElem_mem hlt;generalize xs[k]=t at *;have HD:=Hh (fun W => agg1_any t W);obtain ⟨d,hd⟩:∃ d,t.agg=d:=⟨_,rfl⟩
   have hd':=Hh hd;rw [hd] at HD;clear hd;cases d
   ·go_wp2_with fail;refine (HD.out _).mono ?_;rintro e w3 ⟨rfl,f3⟩;have F3:=Hh (hF.out.trans f3)
    have hI2:Hid (∀ x ∈ xs.take (k+1),x.agg=false):=Hh fun x hx => by
     rw [hnx.out,List.mem_append] at hx;rcases hx with hx|hx
     ·exact hI.out x hx
     ·rw [List.mem_singleton] at hx;subst hx;exact hd'.out
    clear f3;go_wp2;go_roundw
    case rel => exact ⟨k+1,by omega,by go_num,hI2,F3⟩
    case measure => simp [intOf] <;> omega
   ·go_wp2_with fail;refine (HD.out _).mono ?_;rintro e w3 ⟨rfl,f3⟩;go_wp2;go_ret
    exact ⟨k,rfl,by
     have h9:xs.any Ar.agg=true:=List.any_eq_true.2 ⟨_,hmem,hd'.out⟩;rw [h9];simp,hF.out.trans f3⟩
  ·obtain rfl:k=xs.length:=by omega
   rw [List.take_length] at hI;go_wp2;go_ret
   exact ⟨-1,rfl,by
    have h9:xs.any Ar.agg=false:=List.any_eq_false.2 fun x hx => by rw [hI.out x hx];decide
    rw [h9];decide,hF.out⟩
set_option maxHeartbeats 1600000 in
theorem contG_any {M:Nat} (A:Option Addr) (c:Nat) (xs:List Ar) (w:World) (h:SlRep 5 M RAr w (.slice A xs.length c) xs) (hM:M≤9223372036854775807) :
    Calls Tryz.prog 251 #[.slice A xs.length c,.func (.func 252) #[] #[]] w fun e w' => e = .returned (.bool (xs.any Ar.agg))∧Fut w w':=by
 have HI:=Hh (idxG_any A c xs w h hM);obtain ⟨b,hb⟩:∃ b,(xs.any Ar.agg)=b:=⟨_,rfl⟩
 rw [hb] at HI ⊢;clear h hb;go_enter Tryz.func251,Tryz.ntmps251;go_wp2_with fail;refine HI.out.mono ?_;rintro e w1 ⟨r,rfl,hr,f1⟩
 by_cases h0:0≤r
 ·obtain rfl:b=true:=by rw [← hr];simp [h0]
  have h0':r≥0:=h0;go_wp2;go_ret;exact ⟨by first|rfl|simp,f1⟩
 ·obtain rfl:b=false:=by rw [← hr];simp [h0]
  have h0':¬ r≥0:=h0;go_wp2;go_ret;exact ⟨by first|rfl|simp,f1⟩
set_option maxHeartbeats 1600000 in
theorem agg_any (x:Ru) (Ah Ab:Option Addr) (ch cb:Nat) (w:World) (h1:SlRep 5 2513169434916 RAr w (.slice Ah x.h.length ch) x.h) :
    Calls Tryz.prog 198 #[.agg #[.string x.p,.slice Ah x.h.length ch,.slice Ab x.b.length cb]] w fun e w' => e = .returned (.bool x.agg)∧Fut w w':=by
 have f0:=Fut.alloc w (.cells #[.string x.p,.slice Ah x.h.length ch,.slice Ab x.b.length cb] 82);have HC:=Hh (contG_any Ah ch x.h _ (h1.fut RAr.stays f0) (by omega));have F0:=Hh f0;unfold Ru.agg;clear h1 f0;generalize x.h.any Ar.agg=b at *;generalize x.h.length=n at *;generalize x.b.length=m at *;generalize x.p=p at *;go_enter Tryz.func198,Tryz.ntmps198;go_wp2_with fail;refine HC.out.mono ?_;rintro e w1 ⟨rfl,f1⟩;have F1:=Hh (F0.out.trans f1);clear f1;go_wp2;go_ret;exact ⟨rfl,F1.out⟩
end Go.Proofs.YtobabnpllokkaaaGreatDoor
namespace Go.Proofs.YtobabnpllokkaaaGreatDoor
open Go.RowKit
def Lt.isA (x:Lt):Bool:=decide (x.k=1) || decide (x.k=2)
set_option maxHeartbeats 4000000 in
set_option maxRecDepth 100000 in
theorem atoms_any {M:Nat} (Inv:Nat→World→Prop) (A:Option Addr) (c:Nat) (xb:List Lt) (w:World) (F:FuncId) (bs:Array Value) (hxl:xb.length≤9223372036854775807) (hcall:∀ args W,(callFunc F args).run Tryz.prog W = .ok (.enter F args) W)
    (hrep:∀ k W,Inv k W→SlRep 16 M RLt W (.slice A xb.length c) xb) (hfut:∀ k W W',Inv k W→Fut W W'→Inv k W')
    (hno:∀ k (hk:k<xb.length) W,Inv k W→xb[k].isA=false→Inv (k+1) W)
    (hyes:∀ k (hk:k<xb.length) W A' c' Al l cl Ad d cd,Inv k W→xb[k].isA=true→LtC W xb[k] (.slice A' xb[k].a.length c') (.slice Al l cl) (.slice Ad d cd)→Calls Tryz.prog F (#[.agg (xb[k].cs (.slice A' xb[k].a.length c') (.slice Al l cl) (.slice Ad d cd)).toArray]++bs) W fun e W' => (∃ u,e = .returned u)∧Inv (k+1) W')
    (h0:Inv 0 w):Calls Tryz.prog 94 #[.slice A xb.length c,.func (.func F) #[] bs] w fun e w' => (∃ u,e = .returned u)∧Inv xb.length w':=by
 have HR:=Hh hrep;have HF:=Hh hfut;have HN:=Hh hno;have HY:=Hh hyes;have H0:=Hh h0;clear hrep hfut hno hyes h0;go_enter Tryz.func94,Tryz.ntmps94;go_wp2_with fail;go_loopw [8] (fun i wr => ∃ k:Nat,k≤xb.length∧i = .int .i64 k∧Hid (Inv k wr)) (fun i _ => xb.length - (intOf i).toNat)
 case atStart => exact ⟨0,Nat.zero_le _,rfl,H0⟩
 case round =>
  obtain ⟨k,hk,rfl,hI⟩:=hrel
  by_cases hlt:k<xb.length
  ·have hltI:(k:Int)<xb.length:=by omega
   have e0:(0:Int)≤k∧(k:Int)<xb.length:=by omega
   obtain ⟨b',off,A',c2,Al,l',cl,Ad,d',cd,rfl,hcs,_,_,g3⟩:=lt_at (HR.out k wr hI.out) hlt;have hN:=Hh (fun W => HN.out k hlt W);have hY:=Hh (fun W hi ha hc => HY.out k hlt W A' c2 Al l' cl Ad d' cd hi ha hc);generalize xb[k]=z at *;obtain ⟨wb,hwb⟩:∃ W,W=wr.alloc (.cells (z.cs (.slice A' z.a.length c2) (.slice Al l' cl) (.slice Ad d' cd)).toArray 120):=⟨_,rfl⟩
   have f0:Fut wr wb:=by rw [hwb];exact Fut.alloc _ _
   have hbx:wb.heap[wr.heap.size]?=some (.cells (z.cs (.slice A' z.a.length c2) (.slice Al l' cl) (.slice Ad d' cd)).toArray 120 (0,0)):=by rw [hwb];exact heap_alloc_new _ _
   replace hwb:=Hh hwb;have hone:=Lt.cs_one z A' z.a.length c2 Al l' cl Ad d' cd;have k0:=cell_at hbx 0 (.int .i8 z.k) rfl
   have hrange:=Hh (show ∀ j v,(z.cs (.slice A' z.a.length c2) (.slice Al l' cl) (.slice Ad d' cd))[j]?=some v→wb.cell? ⟨wr.heap.size,0+j,none⟩=some v from fun j v hj => by
    rw [Nat.zero_add];exact cell_at hbx j v (by simpa using hj))
   have hcs9:=Hh hcs;have hIb:=Hh (HF.out k wr wb hI.out f0);have hgb:=Hh (g3.fut f0);clear f0 hbx hI hcs g3
   by_cases ha:z.isA=true
   ·have HC:=Hh (hY.out wb hIb.out ha hgb.out)
    have hk12:z.k=1∨z.k=2:=by
     unfold Lt.isA at ha;simpa using ha
    clear ha hN hY;rcases hk12 with e1|e1
    ·go_wp2_with (first|(refine wpList_rangeBox (z.cs (.slice A' z.a.length c2) (.slice Al l' cl) (.slice Ad d' cd)) rfl rfl rfl rfl rfl rfl rfl hcs9.out Tryz.underlying120 infoLt rfl hone rfl rfl hwb.out.symm ?_)|(refine wpList_load_mid rfl _ _ rfl _ _ rfl (z.cs (.slice A' z.a.length c2) (.slice Al l' cl) (.slice Ad d' cd)) _ hrange.out Tryz.underlying120 rfl infoLtS ?_));refine HC.out.mono ?_;rintro e w3 ⟨⟨u,rfl⟩,hI3⟩;replace hI3:=Hh hI3;clear HC;go_wp2;go_roundw
     case rel => exact ⟨k+1,by omega,by go_num,hI3⟩
     case measure => simp [intOf] <;> omega
    ·have e2:¬ z.k=1:=by omega
     go_wp2_with (first|(refine wpList_rangeBox (z.cs (.slice A' z.a.length c2) (.slice Al l' cl) (.slice Ad d' cd)) rfl rfl rfl rfl rfl rfl rfl hcs9.out Tryz.underlying120 infoLt rfl hone rfl rfl hwb.out.symm ?_)|(refine wpList_load_mid rfl _ _ rfl _ _ rfl (z.cs (.slice A' z.a.length c2) (.slice Al l' cl) (.slice Ad d' cd)) _ hrange.out Tryz.underlying120 rfl infoLtS ?_));refine HC.out.mono ?_;rintro e w3 ⟨⟨u,rfl⟩,hI3⟩;replace hI3:=Hh hI3;clear HC;go_wp2;go_roundw
     case rel => exact ⟨k+1,by omega,by go_num,hI3⟩
     case measure => simp [intOf] <;> omega
   ·have ha2:z.isA=false:=by simpa using ha
    have hI3:=Hh (hN.out wb hIb.out ha2);have e1:¬ z.k=1:=fun h => ha (by unfold Lt.isA;rw [h];rfl);have e2:¬ z.k=2:=fun h => ha (by unfold Lt.isA;rw [h];rfl);have e3:(z.k == 1)=false:=by rw [beq_eq_false_iff_ne];exact e1
    have e4:(z.k == 2)=false:=by rw [beq_eq_false_iff_ne];exact e2
    clear ha ha2 hN hY;go_wp2_with (first|(refine wpList_rangeBox (z.cs (.slice A' z.a.length c2) (.slice Al l' cl) (.slice Ad d' cd)) rfl rfl rfl rfl rfl rfl rfl hcs9.out Tryz.underlying120 infoLt rfl hone rfl rfl hwb.out.symm ?_));go_roundw
    case rel => exact ⟨k+1,by omega,by go_num,hI3⟩
    case measure => simp [intOf] <;> omega
  ·obtain rfl:k=xb.length:=by omega
   go_wp2;go_end0;exact ⟨⟨_,rfl⟩,hI.out⟩
end Go.Proofs.YtobabnpllokkaaaGreatDoor
namespace Go.Proofs.YtobabnpllokkaaaGreatDoor
open Go.RowKit Go.WideMaps
structure Ed where
 f:ByteArray
 t:ByteArray
 k:Int
 r:Int
abbrev tEdge:TypeId:=129
abbrev tEdges:TypeId:=88
def REd (_:World) (cs:List Value) (e:Ed):Prop:=cs=[.string e.f,.string e.t,.int .i8 e.k,.int .i64 e.r]
theorem REd.stays:Stays REd:=fun _ _ _ _ _ h => h
theorem REd.keeps {e:TypeId}:Keeps e REd:=fun _ _ _ _ _ h _ _ => h
theorem REd.one:∀ (w:World) cs x,REd w cs x→∀ u ∈ cs,u.oneCell'=true:=fun w cs x h u hu => by
 obtain rfl:cs=_:=h;simp only [List.mem_cons,List.not_mem_nil,or_false] at hu;rcases hu with rfl|rfl|rfl|rfl <;> rfl
theorem infoEd:(Tryz.prog.info? 129).map (fun i => (i.zero,i.size,i.bytes))=some (some (.agg #[.string ⟨#[]⟩,.string ⟨#[]⟩,.int .i8 0,.int .i64 0]),4,48):=by kernel_rfl
theorem infoEds:(Tryz.prog.info? 88).map (·.size)=some 1:=by kernel_rfl
theorem infoKd:(Tryz.prog.info? 127).map (·.size)=some 1:=by kernel_rfl
structure EdSt (B:Nat) (W:World) (rb kb ib ob:Nat) (p:ByteArray) (hv bv:Value) (kd i:Int) (es:List Ed) (lv:Value):Prop where
 r:W.heap[rb]?=some (.cells #[.string p,hv,bv] 82 (0,0))
 k:W.heap[kb]?=some (.cells #[.int .i8 kd] 127 (0,0))
 i:W.heap[ib]?=some (.cells #[.int .i64 i] 3 (0,0))
 o:W.heap[ob]?=some (.cells #[lv] tEdges (0,0))
 list:OwnL 4 B tEdge REd W lv es
 low:B≤ob
theorem other_block {w:World} {j k:Nat} {a b:Array Value} {t u:TypeId} (h1:w.heap[j]?=some (.cells a t (0,0))) (h2:w.heap[k]?=some (.cells b u (0,0))) (hn:t≠u):j≠k:=fun e => by
 rw [e,h2] at h1;injection h1 with h1
 injection h1 with _ h1
 exact hn h1.symm
theorem edOne (w:World) (f t:ByteArray) (k r:Int) (e:TypeId):SlRep 4 1 REd (w.alloc (.cells #[.string f,.string t,.int .i8 k,.int .i64 r] e)) (.slice (some ⟨w.heap.size,0,none⟩) 1 1) [⟨f,t,k,r⟩] :=
 slOne w [.string f,.string t,.int .i8 k,.int .i64 r] _ e rfl rfl
theorem edOneAt (w:World) (n:Nat) (hn:w.heap.size=n) (f t:ByteArray) (k r:Int) (e:TypeId):SlRep 4 1 REd (w.alloc (.cells #[.string f,.string t,.int .i8 k,.int .i64 r] e)) (.slice (some ⟨n,0,none⟩) 1 1) [⟨f,t,k,r⟩]:=by
 rw [← hn];exact edOne w f t k r e
theorem set_block {w:World} {b j:Nat} {arr:Array Value} {t:TypeId} {v:Value} (h:w.heap[b]?=some (.cells arr t (0,0))):(w.setCell ⟨b,j,none⟩ v).heap[b]?=some (.cells (arr.setIfInBounds j v) t (0,0)):=by simp [World.setCell,Array.getElem?_modify,h]
section
variable {B rb kb ib ob:Nat} {W w':World} {p:ByteArray} {hv bv lv v':Value} {kd i:Int} {es:List Ed} {e:Ed}
theorem EdSt.fut (h:EdSt B W rb kb ib ob p hv bv kd i es lv) (hf:Fut W w'):EdSt B w' rb kb ib ob p hv bv kd i es lv :=
 ⟨hf.block h.r,hf.block h.k,hf.block h.i,hf.block h.o,h.list.fut REd.stays hf,h.low⟩
theorem EdSt.push (h:EdSt B W rb kb ib ob p hv bv kd i es lv) (o:OwnL 4 B tEdge REd w' v' (es++[e])) (g:W.grownBy w' lv.ownBlock) :
    w'.cell? ⟨ob,0,none⟩=some lv∧w'.frozen? ⟨ob,0,none⟩=false∧EdSt B (w'.setCell ⟨ob,0,none⟩ v') rb kb ib ob p hv bv kd i (es++[e]) v'∧Only (fun k => B≤k) W (w'.setCell ⟨ob,0,none⟩ v'):=by
 have O1:Only (fun k => lv.ownBlock=some k) W w':=Only.grown g fun k hk => hk;have hty:=h.list.typed
 have sep:∀ {j:Nat} {a:Array Value} {t:TypeId},W.heap[j]?=some (.cells a t (0,0))→t≠tEdge→¬ lv.ownBlock=some j:=fun hj hn e => by
  obtain ⟨arr,h9⟩:=hty _ e;exact other_block hj h9 hn rfl
 have r1:=O1.keeps h.r (sep h.r (by decide));have k1:=O1.keeps h.k (sep h.k (by decide));have i1:=O1.keeps h.i (sep h.i (by decide));have o1:=O1.keeps h.o (sep h.o (by decide));have O2:Only (fun k => k=ob) w' (w'.setCell ⟨ob,0,none⟩ v'):=Only.set _ _ rfl;have o2:(w'.setCell ⟨ob,0,none⟩ v').heap[ob]?=some (.cells #[v'] tEdges (0,0)):=by simp [World.setCell,Array.getElem?_modify,o1]
 refine ⟨cell_at o1 0 _ rfl,free_at o1 0,⟨O2.keeps r1 (other_block r1 o1 (by decide)),O2.keeps k1 (other_block k1 o1 (by decide)),O2.keeps i1 (other_block i1 o1 (by decide)),o2,o.only (fun _ _ h => h) O2 fun k hk e => ?_,h.low⟩,(O1.mono fun k _ hk => (h.list.block k hk).1).trans (O2.mono fun k _ hk => by rw [hk];exact h.low)⟩;obtain ⟨arr,h9⟩:=o.typed k hk;exact other_block h9 o1 (by decide) e
end
set_option maxHeartbeats 4000000 in
set_option maxRecDepth 100000 in
theorem edge1_any {B rb kb ib ob:Nat} {p:ByteArray} {hv bv lv:Value} {kd i:Int} {es:List Ed} (z:Lt) (A:Option Addr) (c:Nat) (Al:Option Addr) (l cl:Nat) (Ad:Option Addr) (d cd:Nat) (w:World) (h:EdSt B w rb kb ib ob p hv bv kd i es lv) (hB:B≤w.heap.size) (hes:es.length≤1000000000) :
    Calls Tryz.prog 245 #[.agg (z.cs (.slice A z.a.length c) (.slice Al l cl) (.slice Ad d cd)).toArray,.pointer (some ⟨rb,0,none⟩),.pointer (some ⟨kb,0,none⟩),.pointer (some ⟨ib,0,none⟩),.pointer (some ⟨ob,0,none⟩)] w fun e w' => (∃ u,e = .returned u)∧(∃ lv',EdSt B w' rb kb ib ob p hv bv kd i (es++[⟨p,z.p,if z.k=2 then 2 else kd,i⟩]) lv')∧Only (fun k => B≤k) w w':=by
 have hbx:=heap_alloc_new w (.cells (z.cs (.slice A z.a.length c) (.slice Al l cl) (.slice Ad d cd)).toArray 120);have k0:=cell_at hbx 0 (.int .i8 z.k) rfl;have k1:=cell_at hbx 1 (.string z.p) rfl;generalize hcs:z.cs (.slice A z.a.length c) (.slice Al l cl) (.slice Ad d cd)=cs at *;clear hcs hbx;have f0:=Fut.alloc w (.cells cs.toArray 120);have g1:=h.fut f0;have x0:=cell_at g1.r 0 (.string p) rfl;have x1:=cell_at g1.k 0 (.int .i8 kd) rfl;have x2:=cell_at g1.i 0 (.int .i64 i) rfl;have f1:=Fut.alloc (w.alloc (.cells cs.toArray 120)) (.cells #[.string p,.string z.p,.int .i8 kd,.int .i64 i] tEdge);have hs1:(w.alloc (.cells cs.toArray 120)).heap.size=w.heap.size+1:=by simp
 have hbe:=heap_alloc_new (w.alloc (.cells cs.toArray 120)) (.cells #[.string p,.string z.p,.int .i8 kd,.int .i64 i] tEdge);rw [hs1] at hbe;have g2:=g1.fut f1;have m0:=f1.cell k0;have e0:=cell_at hbe 0 (.string p) rfl;have e1:=cell_at hbe 1 (.string z.p) rfl;have e2:=cell_at hbe 2 (.int .i8 kd) rfl;have e3:=cell_at hbe 3 (.int .i64 i) rfl;have ef:=free_at hbe 2;have y0:=cell_at g2.o 0 lv rfl;have F2:=Hh (f0.trans f1);have hz2:((w.alloc (.cells cs.toArray 120)).alloc (.cells #[.string p,.string z.p,.int .i8 kd,.int .i64 i] tEdge)).heap.size=w.heap.size+2:=by simp
 replace hbe:=Hh hbe;replace g2:=Hh g2
 have hlv:∀ k,lv.ownBlock=some k→¬ k=w.heap.size+1:=fun k hk => by
  have:=(h.list.block k hk).2;omega
 clear f0 f1 g1 h
 by_cases hk:z.k=2
 ·rw [if_pos hk];obtain ⟨w3,hw3⟩:∃ W,((w.alloc (.cells cs.toArray 120)).alloc (.cells #[.string p,.string z.p,.int .i8 kd,.int .i64 i] tEdge)).setCell ⟨w.heap.size+1,2,none⟩ (.int .i8 2)=W:=⟨_,rfl⟩
  have O2:Only (fun k => k=w.heap.size+1) ((w.alloc (.cells cs.toArray 120)).alloc (.cells #[.string p,.string z.p,.int .i8 kd,.int .i64 i] tEdge)) w3:=by rw [← hw3];exact Only.set _ _ rfl
  have hb3:w3.heap[w.heap.size+1]?=some (.cells #[.string p,.string z.p,.int .i8 2,.int .i64 i] tEdge (0,0)):=by rw [← hw3];exact set_block hbe.out
  have q0:=cell_at hb3 0 (.string p) rfl;have q1:=cell_at hb3 1 (.string z.p) rfl;have q2:=cell_at hb3 2 (.int .i8 2) rfl;have q3:=cell_at hb3 3 (.int .i64 i) rfl
  have g3:EdSt B w3 rb kb ib ob p hv bv kd i es lv:=by
   have g:=g2.out;have hb:=hbe.out;exact ⟨O2.keeps g.r (other_block g.r hb (by decide)),O2.keeps g.k (other_block g.k hb (by decide)),O2.keeps g.i (other_block g.i hb (by decide)),O2.keeps g.o (other_block g.o hb (by decide)),g.list.only (fun _ _ h => h) O2 fun k hk e => hlv k hk e,g.low⟩
  have y3:=cell_at g3.o 0 lv rfl;have hz3:=O2.size;rw [hz2] at hz3;have hi3:=infoKd;clear hb3;go_enter Tryz.func245,Tryz.ntmps245;go_wp2_with (first|(refine wpList_store_1 (wanted_none rfl _) _ _ rfl rfl rfl hi3 rfl e2 ef hw3 ?_)|(at_builtin;refine wpList_append_LB (R:=REd) (B:=B) (M:=1) (xs:=es) (ys:=[⟨p,z.p,2,i⟩]) (e:=129) (by go_simp) _ _ tEdges rfl Tryz.underlying88 (.agg #[.string ⟨#[]⟩,.string ⟨#[]⟩,.int .i8 0,.int .i64 0]) 48 infoEd rfl (by decide) REd.one REd.keeps rfl rfl (g3.list.fut REd.stays (Fut.alloc _ _)) (edOne _ p z.p 2 i _) ?l3 ?l4 ?b3 ?k3))
  case l3 => simp [maxLen];omega
  case l4 => simp;omega
  case b3 => simp;omega
  case k3 =>
  intro v' w' o' g' sn';obtain ⟨c0,c1,hE,hO⟩:=(g3.fut (Fut.alloc w3 _)).push o' g';obtain ⟨A8,c8,rfl,_,_⟩:=o'.rep.form;rw [List.length_append,List.length_singleton] at hE hO ⊢;obtain ⟨w5,hw5⟩:∃ W,w'.setCell ⟨ob,0,none⟩ (.slice A8 (es.length+1) c8)=W:=⟨_,rfl⟩
  rw [hw5] at hE hO;have HO:=Hh (show Only (fun k => B≤k) w w5 from (((Only.fut F2.out).trans (O2.mono fun k _ hk => by omega)).trans (Only.fut (Fut.alloc _ _))).trans hO);replace hE:=Hh hE;have hi2:=infoEds;clear o' g' sn' hO;go_wp2_with (first|(refine wpList_store_1 (wanted_none rfl _) _ _ rfl rfl rfl hi2 rfl c0 c1 hw5 ?_));clear hw5 c0 c1;go_wp2;go_end0;exact ⟨⟨_,rfl⟩,⟨_,hE.out⟩,HO.out⟩
 ·rw [if_neg hk];have hk2:(z.k == 2)=false:=by rw [beq_eq_false_iff_ne];exact hk
  go_enter Tryz.func245,Tryz.ntmps245;go_wp2_with (first|(at_builtin;refine wpList_append_LB (R:=REd) (B:=B) (M:=1) (xs:=es) (ys:=[⟨p,z.p,kd,i⟩]) (e:=129) (by go_simp) _ _ tEdges rfl Tryz.underlying88 (.agg #[.string ⟨#[]⟩,.string ⟨#[]⟩,.int .i8 0,.int .i64 0]) 48 infoEd rfl (by decide) REd.one REd.keeps rfl rfl (g2.out.list.fut REd.stays (Fut.alloc _ _)) (edOneAt _ _ hz2 p z.p kd i _) ?l3 ?l4 ?b3 ?k3))
  case l3 => simp [maxLen];omega
  case l4 => simp;omega
  case b3 => simp;omega
  case k3 =>
  intro v' w' o' g' sn';obtain ⟨c0,c1,hE,hO⟩:=(g2.out.fut (Fut.alloc ((w.alloc (.cells cs.toArray 120)).alloc (.cells #[.string p,.string z.p,.int .i8 kd,.int .i64 i] tEdge)) _)).push o' g';obtain ⟨A8,c8,rfl,_,_⟩:=o'.rep.form;rw [List.length_append,List.length_singleton] at hE hO ⊢;obtain ⟨w5,hw5⟩:∃ W,w'.setCell ⟨ob,0,none⟩ (.slice A8 (es.length+1) c8)=W:=⟨_,rfl⟩
  rw [hw5] at hE hO;have HO:=Hh (show Only (fun k => B≤k) w w5 from ((Only.fut F2.out).trans (Only.fut (Fut.alloc _ _))).trans hO);replace hE:=Hh hE;have hi2:=infoEds;clear o' g' sn' hO;go_wp2_with (first|(refine wpList_store_1 (wanted_none rfl _) _ _ rfl rfl rfl hi2 rfl c0 c1 hw5 ?_));clear hw5 c0 c1;go_wp2;go_end0;exact ⟨⟨_,rfl⟩,⟨_,hE.out⟩,HO.out⟩
end Go.Proofs.YtobabnpllokkaaaGreatDoor
