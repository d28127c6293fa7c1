/- Parts. -/
import Derived.Test.YtobabnpllokkaaaGreatDoorP21
import Derived.Test.YtobabnpllokkaaaGreatDoorP18
import Derived.Test.YtobabnpllokkaaaGreatDoorP15
import Derived.Test.YtobabnpllokkaaaGreatDoorP11
import Derived.Test.YtobabnpllokkaaaGreatDoorP06
import Derived.Test.YtobabnpllokkaaaGreatDoorP00
set_option linter.unusedSimpArgs false
set_option linter.unusedVariables false
namespace Go.Proofs.YtobabnpllokkaaaGreatDoor
open Go.RowKit Go.WideMaps Go.Maps
abbrev tRu9:TypeId:=82
abbrev tPr9:TypeId:=28
structure E9S (w W:World) (pv u:Value) (es:List Ed) (rb:Nat) (rc:Array Value) (eb:Nat) (f t:ByteArray) (kd i:Int):Prop where
 fut:Fut w W
 prog:W.heap[w.heap.size]?=some (.cells #[pv] tPr9 (0,0))
 list:OwnL 4 w.heap.size tEdge REd W u es
 rule:W.heap[rb]?=some (.cells rc tRu9 (0,0))
 e:W.heap[eb]?=some (.cells #[.string f,.string t,.int .i8 kd,.int .i64 i] tEdge (0,0))
 lt:(∀ k,u.ownBlock=some k→k<eb)∧w.heap.size≤eb
section
variable {w W w':World} {pv u v':Value} {es:List Ed} {rb eb:Nat} {rc:Array Value} {f t:ByteArray} {kd i:Int} {e:Ed}
theorem E9S.later (h:E9S w W pv u es rb rc eb f t kd i) (hf:Fut W w'):E9S w w' pv u es rb rc eb f t kd i :=
 ⟨h.fut.trans hf,hf.block h.prog,h.list.fut REd.stays hf,hf.block h.rule,hf.block h.e,h.lt⟩
theorem E9S.kind (h:E9S w W pv u es rb rc eb f t kd i) (v:Int):E9S w (W.setCell ⟨eb,2,none⟩ (.int .i8 v)) pv u es rb rc eb f t v i:=by
 have O2:Only (fun k => k=eb) W (W.setCell ⟨eb,2,none⟩ (.int .i8 v)):=Only.set _ _ rfl;refine ⟨((Only.fut h.fut).trans (O2.mono (S':=fun k => w.heap.size≤k) fun k _ hk => by have:=h.lt.2;omega)).toFut (fun k hk => hk),O2.keeps h.prog (other_block h.prog h.e (by decide)),h.list.only (fun _ _ h => h) O2 fun k hk e => ?_,O2.keeps h.rule (other_block h.rule h.e (by decide)),?_,h.lt⟩
 ·have:=h.lt.1 k hk;omega
 ·have:=set_block (j:=2) (v:=.int .i8 v) h.e;exact this
theorem E9S.push {o:Obj} (h:E9S w W pv u es rb rc eb f t kd i) (o':OwnL 4 w.heap.size tEdge REd w' v' (es++[e])) (g:(W.alloc o).grownBy w' u.ownBlock) :
    Fut w w'∧w'.heap[w.heap.size]?=some (.cells #[pv] tPr9 (0,0))∧w'.heap[rb]?=some (.cells rc tRu9 (0,0)):=by
 have h2:=h.later (Fut.alloc W o);have O1:Only (fun k => u.ownBlock=some k) (W.alloc o) w':=Only.grown g fun k hk => hk
 have sep:∀ {j:Nat} {a:Array Value} {t:TypeId},(W.alloc o).heap[j]?=some (.cells a t (0,0))→t≠tEdge→¬ u.ownBlock=some j:=fun hj hn e => by
  obtain ⟨arr,h9⟩:=h2.list.typed _ e;exact other_block hj h9 hn rfl
 exact ⟨((Only.fut h2.fut).trans (O1.mono (S':=fun k => w.heap.size≤k) fun k _ hk => (h2.list.block k hk).1)).toFut fun k hk => hk,O1.keeps h2.prog (sep h2.prog (by decide)),O1.keeps h2.rule (sep h2.rule (by decide))⟩
end
theorem infoEdS9:(Tryz.prog.info? 129).map (·.size)=some 4:=by kernel_rfl
theorem filt_take9 {l:List Lt} {k:Nat} (hk:k<l.length) {α:Type} (g:Lt→α):((l.take (k+1)).filter Lt.isA).map g=((l.take k).filter Lt.isA).map g++(if l[k].isA=true then [g l[k]] else []):=by
 rw [List.take_succ_eq_append_getElem hk,List.filter_append,List.map_append];cases h:l[k].isA <;> simp [h]
theorem edges9_take {rs:List Ru} {k:Nat} (hk:k<rs.length):edgesP (rs.take (k+1))=edgesP (rs.take k)++((rs[k].b.take rs[k].b.length).filter Lt.isA).map (rs[k].edge (k:Nat)):=by
 rw [edges_take hk,List.take_length];rfl
set_option maxHeartbeats 8000000 in
set_option maxRecDepth 100000 in
theorem redges_any {M:Nat} (A:Option Addr) (c:Nat) (rs:List Ru) (w:World) (h:SlRep 3 M RRu w (.slice A rs.length c) rs) (hM:M≤9223372036854775807) (hS:Small rs) :
    Calls Tryz.prog 28 #[.agg #[.slice A rs.length c]] w fun e w' => ∃ v,e = .returned v∧OwnL 4 w.heap.size tEdge REd w' v (edgesP rs)∧Fut w w':=by
 obtain ⟨_,_,hv,hl1,hl2⟩:=h.form;have hxl:rs.length≤9223372036854775807:=by omega
 have H:=Hh h;have HS:=Hh hS;clear h hS hl1 hl2 hv;have hbx:=heap_alloc_new w (.cells #[.slice A rs.length c] 28);obtain ⟨pv,hpv⟩:∃ v,Value.slice A rs.length c=v:=⟨_,rfl⟩
 have HI:=Hh (show Fut w (w.alloc (.cells #[.slice A rs.length c] 28))∧(w.alloc (.cells #[.slice A rs.length c] 28)).heap[w.heap.size]?=some (.cells #[pv] tPr9 (0,0))∧OwnL 4 w.heap.size tEdge REd (w.alloc (.cells #[.slice A rs.length c] 28)) (.slice none 0 0) (edgesP (rs.take 0)) from ⟨Fut.alloc w _,by rw [← hpv];exact hbx,OwnL.nil⟩);replace hpv:=Hh hpv;clear hbx;go_enter Tryz.func28,Tryz.ntmps28;go_wp2_with fail;go_loopw [3,4,5,6,7] (fun u i _ _ _ wr => ∃ k:Nat,k≤rs.length∧i = .int .i64 k∧Hid (Fut w wr∧wr.heap[w.heap.size]?=some (.cells #[pv] tPr9 (0,0))∧OwnL 4 w.heap.size tEdge REd wr u (edgesP (rs.take k)))) (fun _ i _ _ _ _ => rs.length - (intOf i).toNat)
 case atStart => exact ⟨0,Nat.zero_le _,rfl,HI⟩
 case round =>
  clear HI;obtain ⟨k,hk,rfl,hI⟩:=hrel;obtain ⟨wq,rfl⟩:∃ x,x=wr:=⟨_,rfl⟩
  have y0:=cell_at hI.out.2.1 0 pv rfl;rw [← hpv.out] at y0
  by_cases hlt:k<rs.length
  ·have hltI:(k:Int)<rs.length:=by omega
   have e0:(0:Int)≤k∧(k:Int)<rs.length:=by omega
   obtain ⟨b',off,Ah,ch,Ab,cb,rfl,u0,u1,u2,hp,hh1,hh2⟩:=ru_at H.out hlt;have hnx:=Hh (edges9_take hlt);have hmem:=HS.out.mem (List.getElem_mem hlt)
   have hlen:(edgesP (rs.take k)).length≤10000000:=by
    have h1:=HS.out.edges
    have h2:edgesP rs=edgesP (rs.take k)++((rs.drop k).zipIdx k).flatMap fun x => x.1.edges (x.2:Nat):=by
     unfold edgesP
     conv => lhs;rw [← List.take_append_drop k rs]
     rw [List.zipIdx_append,List.flatMap_append,List.length_take,Nat.min_eq_left hk,Nat.zero_add]
    rw [h2,List.length_append] at h1;omega
   obtain ⟨r,hrk⟩:∃ r,rs[k]=r:=⟨_,rfl⟩
   rw [hrk] at u0 u1 u2 hp hh1 hh2 hnx hmem;have hbl:=hmem.2;have F0:=hI.out.1;have hcs9:=Hh (three_cells (F0.cell u0) (F0.cell u1) (F0.cell u2));have HAG:=Hh (fun W (hW:Fut w W) => rhasAgg_any r Ah Ab ch cb W (hh1.fut RAr.stays hW));have HMK:=Hh (fun W (hW:Fut w W) => rmakes_any r Ah Ab ch cb W hp (hh1.fut RAr.stays hW) (hh2.fut RLt.stays hW) (by omega));have HB2:=Hh hh2;clear u0 u1 u2 hp hh1 hh2 hrk hmem;obtain ⟨G,hG⟩:∃ G,edgesP (rs.take k)=G:=⟨_,rfl⟩
   rw [hG] at hI hnx hlen;clear hG;obtain ⟨w2,hw2⟩:∃ W,wq.alloc (.cells [.string r.p,.slice Ah r.h.length ch,.slice Ab r.b.length cb].toArray 82)=W:=⟨_,rfl⟩
   have f1:Fut wq w2:=by rw [← hw2];exact Fut.alloc _ _
   have hrb:w2.heap[wq.heap.size]?=some (.cells #[.string r.p,.slice Ah r.h.length ch,.slice Ab r.b.length cb] tRu9 (0,0)):=by rw [← hw2];exact heap_alloc_new wq _
   have hone:∀ v ∈ ([.string r.p,.slice Ah r.h.length ch,.slice Ab r.b.length cb]:List Value),v.oneCell'=true:=fun v hv => by
    simp only [List.mem_cons,List.not_mem_nil,or_false] at hv;rcases hv with rfl|rfl|rfl <;> rfl
   have hw2h:=Hh hw2;obtain ⟨bw,hbw⟩:∃ v,Value.slice Ab r.b.length cb=v:=⟨_,rfl⟩
   replace hbw:=Hh hbw;have HI2:=Hh (show Fut w w2∧w2.heap[w.heap.size]?=some (.cells #[pv] tPr9 (0,0))∧OwnL 4 w.heap.size tEdge REd w2 u3 (G++((r.b.take 0).filter Lt.isA).map (r.edge (k:Nat)))∧w2.heap[wq.heap.size]?=some (.cells #[.string r.p,.slice Ah r.h.length ch,bw] tRu9 (0,0)) from ⟨F0.trans f1,f1.block hI.out.2.1,by simpa using hI.out.2.2.fut REd.stays f1,by rw [← hbw.out];exact hrb⟩);obtain ⟨rb,hrbe⟩:∃ q,wq.heap.size=q:=⟨_,rfl⟩
   rw [hrbe] at HI2;clear hw2 f1 hI F0 hrb;go_wp2_with (first|(refine wpList_rangeBox [.string r.p,.slice Ah r.h.length ch,.slice Ab r.b.length cb] rfl rfl rfl rfl rfl rfl rfl hcs9.out Tryz.underlying82 infoRu rfl hone rfl rfl hw2h.out ?_))
   try rw [hrbe]
   go_loopw [3,6,7] (fun u i _ W => ∃ m:Nat,m≤r.b.length∧i = .int .i64 m∧Hid (Fut w W∧W.heap[w.heap.size]?=some (.cells #[pv] tPr9 (0,0))∧OwnL 4 w.heap.size tEdge REd W u (G++((r.b.take m).filter Lt.isA).map (r.edge (k:Nat)))∧W.heap[rb]?=some (.cells #[.string r.p,.slice Ah r.h.length ch,bw] tRu9 (0,0)))) (fun _ i _ _ => r.b.length - (intOf i).toNat)
   case atStart => exact ⟨0,Nat.zero_le _,rfl,HI2⟩
   case round =>
    clear HI2;obtain ⟨m,hm,rfl,hJ⟩:=hrel;obtain ⟨wz,rfl⟩:∃ x,x=wr:=⟨_,rfl⟩
    have q0:=cell_at hJ.out.2.2.2 0 (.string r.p) rfl;have q2:=cell_at hJ.out.2.2.2 2 bw rfl;rw [← hbw.out] at q2
    by_cases hlm:m<r.b.length
    ·have hlmI:(m:Int)<r.b.length:=by omega
     have e1:(0:Int)≤m∧(m:Int)<r.b.length:=by omega
     obtain ⟨b2,off2,A',c2,Al,l',cl,Ad,d',cd,rfl,hcs,_,_,g3⟩:=lt_at HB2.out hlm;have hnm:=Hh (filt_take9 hlm (r.edge (k:Nat)));have hfl:=List.length_filter_le Lt.isA (r.b.take m);rw [List.length_take] at hfl;obtain ⟨L1,hL1⟩:∃ q,G++((r.b.take m).filter Lt.isA).map (r.edge (k:Nat))=q:=⟨_,rfl⟩
     have hLl:L1.length≤1000000000:=by rw [← hL1,List.length_append,List.length_map];omega
     have hnm2:=Hh (show G++((r.b.take (m+1)).filter Lt.isA).map (r.edge (k:Nat))=L1++(if (r.b[m]).isA=true then [r.edge (k:Nat) r.b[m]] else []) by rw [hnm.out,← List.append_assoc,hL1]);rw [hL1] at hJ;generalize r.b[m]=z at *;have hcsA:=Hh (fun j v hj => hJ.out.1.cell (hcs j v hj));have U0:=Hh (show w.cell? ⟨b2,off2+m * 16,none⟩=some (.int .i8 z.k) from hcs 0 _ rfl);have u0:=hJ.out.1.cell U0.out;have u1:wz.cell? ⟨b2,off2+m * 16+1,none⟩=some (.string z.p):=hcsA.out 1 _ rfl;have HAt:=Hh (risAtom_any z A' z.a.length c2 Al l' cl Ad d' cd wz);have hed:r.edge (k:Nat) z=⟨r.p,z.p,if z.k=2 then 2 else r.kind,(k:Nat)⟩:=rfl;have hkind:r.kind=if r.agg=true then 3 else if r.makes=true then 4 else 1:=rfl
     clear hcs g3 hnm hL1 hfl;obtain ⟨ia,hia⟩:∃ b,z.isA=b:=⟨_,rfl⟩
     rw [hia] at HAt hnm2;cases ia
     ·go_wp2_with (first|(show wpList _ _ _ (Oper.mk _ (Op.load 120 _) _ _ _ _ :: _) _ _;refine Go.wpList_load_mid rfl _ _ rfl b2 (off2+m * 16) rfl (z.cs (.slice A' z.a.length c2) (.slice Al l' cl) (.slice Ad d' cd)) _ hcsA.out Tryz.underlying120 rfl infoLtS ?_));refine HAt.out.mono ?_;rintro e w3 ⟨rfl,f3⟩;have HJ3:=Hh (show Fut w w3∧w3.heap[w.heap.size]?=some (.cells #[pv] tPr9 (0,0))∧OwnL 4 w.heap.size tEdge REd w3 u3 (G++((r.b.take (m+1)).filter Lt.isA).map (r.edge (k:Nat)))∧w3.heap[rb]?=some (.cells #[.string r.p,.slice Ah r.h.length ch,bw] tRu9 (0,0)) from ⟨hJ.out.1.trans f3,f3.block hJ.out.2.1,by rw [hnm2.out,if_neg (by decide),List.append_nil];exact hJ.out.2.2.1.fut REd.stays f3,f3.block hJ.out.2.2.2⟩);clear f3;go_wp2;go_roundw
      case rel => exact ⟨m+1,by omega,by go_num,HJ3⟩
      case measure => simp [intOf] <;> omega
     ·rw [if_pos rfl,hed,hkind] at hnm2;obtain ⟨mk,hmk⟩:∃ g,r.makes=g:=⟨_,rfl⟩
      obtain ⟨ag,hag⟩:∃ g,r.agg=g:=⟨_,rfl⟩
      simp only [hmk] at HMK hnm2;simp only [hag] at HAG hnm2;clear hmk hag hed hkind hia;go_wp2_with (first|(show wpList _ _ _ (Oper.mk _ (Op.load 120 _) _ _ _ _ :: _) _ _;refine Go.wpList_load_mid rfl _ _ rfl b2 (off2+m * 16) rfl (z.cs (.slice A' z.a.length c2) (.slice Al l' cl) (.slice Ad d' cd)) _ hcsA.out Tryz.underlying120 rfl infoLtS ?_));refine HAt.out.mono ?_;rintro e w3 ⟨rfl,f3⟩;have q0':=f3.cell q0;have q2':=f3.cell q2;have u0':=f3.cell u0;have u1':=f3.cell u1;go_wp2_with fail;refine wp_graph 12 [.d,.d,.d,.d,.d,.d,.d,.d,.d,.d,.d,.r (fun v W => ∃ b,v = .pointer (some ⟨b,0,none⟩)∧W.heap[b]?=some (.cells #[.string ⟨#[]⟩,.string ⟨#[]⟩,.int .i8 0,.int .i64 0] tEdge (0,0))∧w3.heap.size≤b)] (by kernel_rfl) (by kernel_rfl) (by kernel_rfl) ?_;simp only [takS,Exs]
      iterate 11 apply Exists.intro
      apply Run.valG (wanted_none rfl _)
      ·intro w1 h1 hk;go_simp;rfl
      simp only [actS];apply Run.valG (wanted_none rfl _)
      ·intro w1 h1 hk;have r0:=h1.cell q0';have r2:=h1.cell q2';have r3:=h1.cell u1';have hg:=(Fut.drew _).trans h1;have hcw:=fun b o => Below.cell (p:=⟨b,o,none⟩) h1;go_simp;rfl
      simp only [actS];apply Run.valG (wanted_none rfl _)
      ·intro w1 h1 hk;go_simp;rfl
      simp only [actS];apply Run.valG (wanted_none rfl _)
      ·intro w1 h1 hk;have r0:=h1.cell q0';have r2:=h1.cell q2';have r3:=h1.cell u1';have hg:=(Fut.drew _).trans h1;have hcw:=fun b o => Below.cell (p:=⟨b,o,none⟩) h1;go_simp;rfl
      simp only [actS]
      iterate 4
       apply Run.valG (wanted_none rfl _)
       ·intro w1 h1 hk;go_simp;rfl
       simp only [actS]
      apply Run.valG (wanted_none rfl _)
      ·intro w1 h1 hk;have r0:=h1.cell q0';have r2:=h1.cell q2';have r3:=h1.cell u1';have hg:=(Fut.drew _).trans h1;have hcw:=fun b o => Below.cell (p:=⟨b,o,none⟩) h1;go_simp;rfl
      simp only [actS];apply Run.valG (wanted_none rfl _)
      ·intro w1 h1 hk;go_simp;rfl
      simp only [actS];apply Run.valG (wanted_none rfl _)
      ·intro w1 h1 hk;have r0:=h1.cell q0';have r2:=h1.cell q2';have r3:=h1.cell u1';have hg:=(Fut.drew _).trans h1;have hcw:=fun b o => Below.cell (p:=⟨b,o,none⟩) h1;go_simp;rfl
      simp only [actS];apply Run.valR (wanted_none rfl _) (by intro v w w' hf hs;exact (by obtain ⟨b,g1,g2,g3⟩:=hs;exact ⟨b,g1,hf.block g2,g3⟩))
      ·intro w1 h1 hk;have r0:=h1.cell q0';have r2:=h1.cell q2';have r3:=h1.cell u1';have hg:=(Fut.drew _).trans h1;go_simp;exact ⟨_,_,⟨rfl,rfl⟩,Fut.alloc _ _,_,rfl,heap_alloc_new _ _,hg.size⟩
      intro v11;simp only [actS];apply Run.done;intro w2 h2 hk;obtain ⟨f11,_⟩:=hk;obtain ⟨eb,rfl,hbe,hle⟩:=f11;have FA:=f3.trans ((Fut.drew _).trans h2)
      refine wpList_storeM [.string r.p,.string z.p,.int .i8 1,.int .i64 (k:Nat)] rfl _ _ _ rfl rfl rfl hbe (Nat.le_refl 4) infoEdS9 (fun v hv => by
       simp only [List.mem_cons,List.not_mem_nil,or_false] at hv;rcases hv with rfl|rfl|rfl|rfl <;> rfl) ?_
      intro w4 t2 t3;have hwz:wz.heap.size≤eb:=Nat.le_trans f3.size hle;have FB:Fut wz w4:=((Only.fut (S:=fun k => k=eb) FA).trans t3).toFut fun k hk => by omega
      have hE:E9S w w4 pv u3 L1 rb #[.string r.p,.slice Ah r.h.length ch,bw] eb r.p z.p 1 (k:Nat):=by
       have hFw:=hJ.out.1.size;refine ⟨hJ.out.1.trans FB,FB.block hJ.out.2.1,hJ.out.2.2.1.fut REd.stays FB,FB.block hJ.out.2.2.2,by simpa using t2,fun k hk => ?_,by omega⟩;have:=(hJ.out.2.2.1.block k hk).2;omega
      have HF:=Hh FB;have HE:=Hh hE;have x0:=cell_at hE.rule 0 (.string r.p) rfl;have x1:=cell_at hE.rule 1 (.slice Ah r.h.length ch) rfl;have x2:=cell_at hE.rule 2 bw rfl;rw [← hbw.out] at x2;have HMK4:=Hh (HMK.out _ hE.fut);clear FA FB hE f3 h2 q0 q2 q0' q2' u0 u1 u0' u1' HAt HMK hcsA hJ t2 t3 hwz hle;clear hbe;go_wp2_with fail;refine HMK4.out.mono ?_;rintro e w5 ⟨rfl,f5⟩;have HE5:=Hh (HE.out.later f5);have HF5:=Hh (HF.out.trans f5);clear f5 HE HF HMK4 x0 x1 x2;cases mk
      ·cases ag
       ·by_cases hn:z.k=2
        ·have hkd:=Hh (show G++((r.b.take (m+1)).filter Lt.isA).map (r.edge (k:Nat))=L1++[⟨r.p,z.p,2,(k:Nat)⟩] from by rw [hnm2.out,if_pos hn]);have hi3:=infoKd;have x0:=cell_at HE5.out.rule 0 (.string r.p) rfl;have x1:=cell_at HE5.out.rule 1 (.slice Ah r.h.length ch) rfl;have x2:=cell_at HE5.out.rule 2 bw rfl;rw [← hbw.out] at x2;have HC6:=Hh (HAG.out _ HE5.out.fut);go_wp2_with fail;refine HC6.out.mono ?_;rintro e w6 ⟨rfl,f6⟩;have HE6:=Hh (HE5.out.later f6);clear HC6 x0 x1 x2 f6;have x2:=cell_at HE6.out.rule 2 bw rfl;rw [← hbw.out] at x2;have v0:=HE6.out.fut.cell U0.out;have s2:=cell_at HE6.out.e 2 _ rfl;have t2:=free_at HE6.out.e 2;obtain ⟨y2,hy2⟩:∃ W,w6.setCell ⟨eb,2,none⟩ (.int .i8 2)=W:=⟨_,rfl⟩
         have HY2:=Hh (show E9S w y2 pv u3 L1 rb #[.string r.p,.slice Ah r.h.length ch,bw] eb r.p z.p 2 (k:Nat) from by rw [← hy2];exact HE6.out.kind 2);replace hy2:=Hh hy2;rw [hn] at v0;have z0:=cell_at HY2.out.e 0 (.string r.p) rfl;have z1:=cell_at HY2.out.e 1 (.string z.p) rfl;have z2:=cell_at HY2.out.e 2 (.int .i8 2) rfl;have z3:=cell_at HY2.out.e 3 (.int .i64 (k:Nat)) rfl;obtain ⟨Au,cu,rfl,_,_⟩:=HE6.out.list.rep.form;have HO9:=Hh (HY2.out.list.fut REd.stays (Fut.alloc _ (.cells #[.string r.p,.string z.p,.int .i8 2,.int .i64 (k:Nat)] tEdge)));have hsz9:=HY2.out.fut.size;go_wp2_with (first|(show wpList _ _ _ (Oper.mk _ (Op.store 127 _ _) _ _ _ _ :: _) _ _;refine wpList_store_1 (wanted_none rfl _) _ _ rfl rfl rfl hi3 rfl s2 t2 hy2.out ?_)|(at_builtin;refine wpList_append_LB (R:=REd) (B:=w.heap.size) (M:=1) (xs:=L1) (ys:=[⟨r.p,z.p,2,(k:Nat)⟩]) (e:=129) (by go_simp) _ _ tEdges rfl Tryz.underlying88 (.agg #[.string ⟨#[]⟩,.string ⟨#[]⟩,.int .i8 0,.int .i64 0]) 48 infoEd rfl (by decide) REd.one REd.keeps rfl rfl HO9.out (edOne _ r.p z.p 2 (k:Nat) _) ?l3 ?l4 ?b3 ?k3))
         case l3 => simp [maxLen];omega
         case l4 => simp;omega
         case b3 => simp;omega
         case k3 =>
         intro v' w' o' g' sn';have HP9:=HY2.out.push o' g';have HJ9:=Hh (show Fut w w'∧w'.heap[w.heap.size]?=some (.cells #[pv] tPr9 (0,0))∧OwnL 4 w.heap.size tEdge REd w' v' (G++((r.b.take (m+1)).filter Lt.isA).map (r.edge (k:Nat)))∧w'.heap[rb]?=some (.cells #[.string r.p,.slice Ah r.h.length ch,bw] tRu9 (0,0)) from ⟨HP9.1,HP9.2.1,by rw [hkd.out];exact o',HP9.2.2⟩);clear o' g' sn' HP9 v0 x2 z0 z1 z2 z3 s2 t2;go_wp2;go_roundw
         case rel => exact ⟨m+1,by omega,by go_num,HJ9⟩
         case measure => simp [intOf] <;> omega
        ·have hkd:=Hh (show G++((r.b.take (m+1)).filter Lt.isA).map (r.edge (k:Nat))=L1++[⟨r.p,z.p,1,(k:Nat)⟩] from by rw [hnm2.out,if_neg hn];rfl);have hnb:(z.k == 2)=false:=by rw [beq_eq_false_iff_ne];exact hn
         have hi3:=infoKd;have x0:=cell_at HE5.out.rule 0 (.string r.p) rfl;have x1:=cell_at HE5.out.rule 1 (.slice Ah r.h.length ch) rfl;have x2:=cell_at HE5.out.rule 2 bw rfl;rw [← hbw.out] at x2;have HC6:=Hh (HAG.out _ HE5.out.fut);go_wp2_with fail;refine HC6.out.mono ?_;rintro e w6 ⟨rfl,f6⟩;have HE6:=Hh (HE5.out.later f6);clear HC6 x0 x1 x2 f6;have x2:=cell_at HE6.out.rule 2 bw rfl;rw [← hbw.out] at x2;have v0:=HE6.out.fut.cell U0.out;have z0:=cell_at HE6.out.e 0 (.string r.p) rfl;have z1:=cell_at HE6.out.e 1 (.string z.p) rfl;have z2:=cell_at HE6.out.e 2 (.int .i8 1) rfl;have z3:=cell_at HE6.out.e 3 (.int .i64 (k:Nat)) rfl;obtain ⟨Au,cu,rfl,_,_⟩:=HE6.out.list.rep.form;have HO9:=Hh (HE6.out.list.fut REd.stays (Fut.alloc _ (.cells #[.string r.p,.string z.p,.int .i8 1,.int .i64 (k:Nat)] tEdge)));have hsz9:=HE6.out.fut.size;go_wp2_with (first|(at_builtin;refine wpList_append_LB (R:=REd) (B:=w.heap.size) (M:=1) (xs:=L1) (ys:=[⟨r.p,z.p,1,(k:Nat)⟩]) (e:=129) (by go_simp) _ _ tEdges rfl Tryz.underlying88 (.agg #[.string ⟨#[]⟩,.string ⟨#[]⟩,.int .i8 0,.int .i64 0]) 48 infoEd rfl (by decide) REd.one REd.keeps rfl rfl HO9.out (edOne _ r.p z.p 1 (k:Nat) _) ?l3 ?l4 ?b3 ?k3))
         case l3 => simp [maxLen];omega
         case l4 => simp;omega
         case b3 => simp;omega
         case k3 =>
         intro v' w' o' g' sn';have HP9:=HE6.out.push o' g';have HJ9:=Hh (show Fut w w'∧w'.heap[w.heap.size]?=some (.cells #[pv] tPr9 (0,0))∧OwnL 4 w.heap.size tEdge REd w' v' (G++((r.b.take (m+1)).filter Lt.isA).map (r.edge (k:Nat)))∧w'.heap[rb]?=some (.cells #[.string r.p,.slice Ah r.h.length ch,bw] tRu9 (0,0)) from ⟨HP9.1,HP9.2.1,by rw [hkd.out];exact o',HP9.2.2⟩);clear o' g' sn' HP9 v0 x2 z0 z1 z2 z3;go_wp2;go_roundw
         case rel => exact ⟨m+1,by omega,by go_num,HJ9⟩
         case measure => simp [intOf] <;> omega
       ·by_cases hn:z.k=2
        ·have hkd:=Hh (show G++((r.b.take (m+1)).filter Lt.isA).map (r.edge (k:Nat))=L1++[⟨r.p,z.p,2,(k:Nat)⟩] from by rw [hnm2.out,if_pos hn]);have hi3:=infoKd;have x0:=cell_at HE5.out.rule 0 (.string r.p) rfl;have x1:=cell_at HE5.out.rule 1 (.slice Ah r.h.length ch) rfl;have x2:=cell_at HE5.out.rule 2 bw rfl;rw [← hbw.out] at x2;have HC6:=Hh (HAG.out _ HE5.out.fut);go_wp2_with fail;refine HC6.out.mono ?_;rintro e w6 ⟨rfl,f6⟩;have HE6:=Hh (HE5.out.later f6);clear HC6 x0 x1 x2 f6;have s1:=cell_at HE6.out.e 2 _ rfl;have t1:=free_at HE6.out.e 2;obtain ⟨y1,hy1⟩:∃ W,w6.setCell ⟨eb,2,none⟩ (.int .i8 3)=W:=⟨_,rfl⟩
         have HY1:=Hh (show E9S w y1 pv u3 L1 rb #[.string r.p,.slice Ah r.h.length ch,bw] eb r.p z.p 3 (k:Nat) from by rw [← hy1];exact HE6.out.kind 3);replace hy1:=Hh hy1;have x2:=cell_at HY1.out.rule 2 bw rfl;rw [← hbw.out] at x2;have v0:=HY1.out.fut.cell U0.out;have s2:=cell_at HY1.out.e 2 _ rfl;have t2:=free_at HY1.out.e 2;obtain ⟨y2,hy2⟩:∃ W,y1.setCell ⟨eb,2,none⟩ (.int .i8 2)=W:=⟨_,rfl⟩
         have HY2:=Hh (show E9S w y2 pv u3 L1 rb #[.string r.p,.slice Ah r.h.length ch,bw] eb r.p z.p 2 (k:Nat) from by rw [← hy2];exact HY1.out.kind 2);replace hy2:=Hh hy2;rw [hn] at v0;have z0:=cell_at HY2.out.e 0 (.string r.p) rfl;have z1:=cell_at HY2.out.e 1 (.string z.p) rfl;have z2:=cell_at HY2.out.e 2 (.int .i8 2) rfl;have z3:=cell_at HY2.out.e 3 (.int .i64 (k:Nat)) rfl;obtain ⟨Au,cu,rfl,_,_⟩:=HE6.out.list.rep.form;have HO9:=Hh (HY2.out.list.fut REd.stays (Fut.alloc _ (.cells #[.string r.p,.string z.p,.int .i8 2,.int .i64 (k:Nat)] tEdge)));have hsz9:=HY2.out.fut.size;go_wp2_with (first|(show wpList _ _ _ (Oper.mk _ (Op.store 127 _ _) _ _ _ _ :: _) _ _;refine wpList_store_1 (wanted_none rfl _) _ _ rfl rfl rfl hi3 rfl s1 t1 hy1.out ?_)|(show wpList _ _ _ (Oper.mk _ (Op.store 127 _ _) _ _ _ _ :: _) _ _;refine wpList_store_1 (wanted_none rfl _) _ _ rfl rfl rfl hi3 rfl s2 t2 hy2.out ?_)|(at_builtin;refine wpList_append_LB (R:=REd) (B:=w.heap.size) (M:=1) (xs:=L1) (ys:=[⟨r.p,z.p,2,(k:Nat)⟩]) (e:=129) (by go_simp) _ _ tEdges rfl Tryz.underlying88 (.agg #[.string ⟨#[]⟩,.string ⟨#[]⟩,.int .i8 0,.int .i64 0]) 48 infoEd rfl (by decide) REd.one REd.keeps rfl rfl HO9.out (edOne _ r.p z.p 2 (k:Nat) _) ?l3 ?l4 ?b3 ?k3))
         case l3 => simp [maxLen];omega
         case l4 => simp;omega
         case b3 => simp;omega
         case k3 =>
         intro v' w' o' g' sn';have HP9:=HY2.out.push o' g';have HJ9:=Hh (show Fut w w'∧w'.heap[w.heap.size]?=some (.cells #[pv] tPr9 (0,0))∧OwnL 4 w.heap.size tEdge REd w' v' (G++((r.b.take (m+1)).filter Lt.isA).map (r.edge (k:Nat)))∧w'.heap[rb]?=some (.cells #[.string r.p,.slice Ah r.h.length ch,bw] tRu9 (0,0)) from ⟨HP9.1,HP9.2.1,by rw [hkd.out];exact o',HP9.2.2⟩);clear o' g' sn' HP9 v0 x2 z0 z1 z2 z3 s1 t1 s2 t2;go_wp2;go_roundw
         case rel => exact ⟨m+1,by omega,by go_num,HJ9⟩
         case measure => simp [intOf] <;> omega
        ·have hkd:=Hh (show G++((r.b.take (m+1)).filter Lt.isA).map (r.edge (k:Nat))=L1++[⟨r.p,z.p,3,(k:Nat)⟩] from by rw [hnm2.out,if_neg hn];rfl);have hnb:(z.k == 2)=false:=by rw [beq_eq_false_iff_ne];exact hn
         have hi3:=infoKd;have x0:=cell_at HE5.out.rule 0 (.string r.p) rfl;have x1:=cell_at HE5.out.rule 1 (.slice Ah r.h.length ch) rfl;have x2:=cell_at HE5.out.rule 2 bw rfl;rw [← hbw.out] at x2;have HC6:=Hh (HAG.out _ HE5.out.fut);go_wp2_with fail;refine HC6.out.mono ?_;rintro e w6 ⟨rfl,f6⟩;have HE6:=Hh (HE5.out.later f6);clear HC6 x0 x1 x2 f6;have s1:=cell_at HE6.out.e 2 _ rfl;have t1:=free_at HE6.out.e 2;obtain ⟨y1,hy1⟩:∃ W,w6.setCell ⟨eb,2,none⟩ (.int .i8 3)=W:=⟨_,rfl⟩
         have HY1:=Hh (show E9S w y1 pv u3 L1 rb #[.string r.p,.slice Ah r.h.length ch,bw] eb r.p z.p 3 (k:Nat) from by rw [← hy1];exact HE6.out.kind 3);replace hy1:=Hh hy1;have x2:=cell_at HY1.out.rule 2 bw rfl;rw [← hbw.out] at x2;have v0:=HY1.out.fut.cell U0.out;have z0:=cell_at HY1.out.e 0 (.string r.p) rfl;have z1:=cell_at HY1.out.e 1 (.string z.p) rfl;have z2:=cell_at HY1.out.e 2 (.int .i8 3) rfl;have z3:=cell_at HY1.out.e 3 (.int .i64 (k:Nat)) rfl;obtain ⟨Au,cu,rfl,_,_⟩:=HE6.out.list.rep.form;have HO9:=Hh (HY1.out.list.fut REd.stays (Fut.alloc _ (.cells #[.string r.p,.string z.p,.int .i8 3,.int .i64 (k:Nat)] tEdge)));have hsz9:=HY1.out.fut.size;go_wp2_with (first|(show wpList _ _ _ (Oper.mk _ (Op.store 127 _ _) _ _ _ _ :: _) _ _;refine wpList_store_1 (wanted_none rfl _) _ _ rfl rfl rfl hi3 rfl s1 t1 hy1.out ?_)|(at_builtin;refine wpList_append_LB (R:=REd) (B:=w.heap.size) (M:=1) (xs:=L1) (ys:=[⟨r.p,z.p,3,(k:Nat)⟩]) (e:=129) (by go_simp) _ _ tEdges rfl Tryz.underlying88 (.agg #[.string ⟨#[]⟩,.string ⟨#[]⟩,.int .i8 0,.int .i64 0]) 48 infoEd rfl (by decide) REd.one REd.keeps rfl rfl HO9.out (edOne _ r.p z.p 3 (k:Nat) _) ?l3 ?l4 ?b3 ?k3))
         case l3 => simp [maxLen];omega
         case l4 => simp;omega
         case b3 => simp;omega
         case k3 =>
         intro v' w' o' g' sn';have HP9:=HY1.out.push o' g';have HJ9:=Hh (show Fut w w'∧w'.heap[w.heap.size]?=some (.cells #[pv] tPr9 (0,0))∧OwnL 4 w.heap.size tEdge REd w' v' (G++((r.b.take (m+1)).filter Lt.isA).map (r.edge (k:Nat)))∧w'.heap[rb]?=some (.cells #[.string r.p,.slice Ah r.h.length ch,bw] tRu9 (0,0)) from ⟨HP9.1,HP9.2.1,by rw [hkd.out];exact o',HP9.2.2⟩);clear o' g' sn' HP9 v0 x2 z0 z1 z2 z3 s1 t1;go_wp2;go_roundw
         case rel => exact ⟨m+1,by omega,by go_num,HJ9⟩
         case measure => simp [intOf] <;> omega
      ·cases ag
       ·by_cases hn:z.k=2
        ·have hkd:=Hh (show G++((r.b.take (m+1)).filter Lt.isA).map (r.edge (k:Nat))=L1++[⟨r.p,z.p,2,(k:Nat)⟩] from by rw [hnm2.out,if_pos hn]);have hi3:=infoKd;have s0:=cell_at HE5.out.e 2 _ rfl;have t0:=free_at HE5.out.e 2;obtain ⟨y0,hy0⟩:∃ W,w5.setCell ⟨eb,2,none⟩ (.int .i8 4)=W:=⟨_,rfl⟩
         have HY0:=Hh (show E9S w y0 pv u3 L1 rb #[.string r.p,.slice Ah r.h.length ch,bw] eb r.p z.p 4 (k:Nat) from by rw [← hy0];exact HE5.out.kind 4);replace hy0:=Hh hy0;have x0:=cell_at HY0.out.rule 0 (.string r.p) rfl;have x1:=cell_at HY0.out.rule 1 (.slice Ah r.h.length ch) rfl;have x2:=cell_at HY0.out.rule 2 bw rfl;rw [← hbw.out] at x2;have HC6:=Hh (HAG.out _ HY0.out.fut);go_wp2_with (first|(show wpList _ _ _ (Oper.mk _ (Op.store 127 _ _) _ _ _ _ :: _) _ _;refine wpList_store_1 (wanted_none rfl _) _ _ rfl rfl rfl hi3 rfl s0 t0 hy0.out ?_));refine HC6.out.mono ?_;rintro e w6 ⟨rfl,f6⟩;have HE6:=Hh (HY0.out.later f6);clear HC6 x0 x1 x2 f6 s0 t0;have x2:=cell_at HE6.out.rule 2 bw rfl;rw [← hbw.out] at x2;have v0:=HE6.out.fut.cell U0.out;have s2:=cell_at HE6.out.e 2 _ rfl;have t2:=free_at HE6.out.e 2;obtain ⟨y2,hy2⟩:∃ W,w6.setCell ⟨eb,2,none⟩ (.int .i8 2)=W:=⟨_,rfl⟩
         have HY2:=Hh (show E9S w y2 pv u3 L1 rb #[.string r.p,.slice Ah r.h.length ch,bw] eb r.p z.p 2 (k:Nat) from by rw [← hy2];exact HE6.out.kind 2);replace hy2:=Hh hy2;rw [hn] at v0;have z0:=cell_at HY2.out.e 0 (.string r.p) rfl;have z1:=cell_at HY2.out.e 1 (.string z.p) rfl;have z2:=cell_at HY2.out.e 2 (.int .i8 2) rfl;have z3:=cell_at HY2.out.e 3 (.int .i64 (k:Nat)) rfl;obtain ⟨Au,cu,rfl,_,_⟩:=HE6.out.list.rep.form;have HO9:=Hh (HY2.out.list.fut REd.stays (Fut.alloc _ (.cells #[.string r.p,.string z.p,.int .i8 2,.int .i64 (k:Nat)] tEdge)));have hsz9:=HY2.out.fut.size;go_wp2_with (first|(show wpList _ _ _ (Oper.mk _ (Op.store 127 _ _) _ _ _ _ :: _) _ _;refine wpList_store_1 (wanted_none rfl _) _ _ rfl rfl rfl hi3 rfl s2 t2 hy2.out ?_)|(at_builtin;refine wpList_append_LB (R:=REd) (B:=w.heap.size) (M:=1) (xs:=L1) (ys:=[⟨r.p,z.p,2,(k:Nat)⟩]) (e:=129) (by go_simp) _ _ tEdges rfl Tryz.underlying88 (.agg #[.string ⟨#[]⟩,.string ⟨#[]⟩,.int .i8 0,.int .i64 0]) 48 infoEd rfl (by decide) REd.one REd.keeps rfl rfl HO9.out (edOne _ r.p z.p 2 (k:Nat) _) ?l3 ?l4 ?b3 ?k3))
         case l3 => simp [maxLen];omega
         case l4 => simp;omega
         case b3 => simp;omega
         case k3 =>
         intro v' w' o' g' sn';have HP9:=HY2.out.push o' g';have HJ9:=Hh (show Fut w w'∧w'.heap[w.heap.size]?=some (.cells #[pv] tPr9 (0,0))∧OwnL 4 w.heap.size tEdge REd w' v' (G++((r.b.take (m+1)).filter Lt.isA).map (r.edge (k:Nat)))∧w'.heap[rb]?=some (.cells #[.string r.p,.slice Ah r.h.length ch,bw] tRu9 (0,0)) from ⟨HP9.1,HP9.2.1,by rw [hkd.out];exact o',HP9.2.2⟩);clear o' g' sn' HP9 v0 x2 z0 z1 z2 z3 s2 t2;go_wp2;go_roundw
         case rel => exact ⟨m+1,by omega,by go_num,HJ9⟩
         case measure => simp [intOf] <;> omega
        ·have hkd:=Hh (show G++((r.b.take (m+1)).filter Lt.isA).map (r.edge (k:Nat))=L1++[⟨r.p,z.p,4,(k:Nat)⟩] from by rw [hnm2.out,if_neg hn];rfl);have hnb:(z.k == 2)=false:=by rw [beq_eq_false_iff_ne];exact hn
         have hi3:=infoKd;have s0:=cell_at HE5.out.e 2 _ rfl;have t0:=free_at HE5.out.e 2;obtain ⟨y0,hy0⟩:∃ W,w5.setCell ⟨eb,2,none⟩ (.int .i8 4)=W:=⟨_,rfl⟩
         have HY0:=Hh (show E9S w y0 pv u3 L1 rb #[.string r.p,.slice Ah r.h.length ch,bw] eb r.p z.p 4 (k:Nat) from by rw [← hy0];exact HE5.out.kind 4);replace hy0:=Hh hy0;have x0:=cell_at HY0.out.rule 0 (.string r.p) rfl;have x1:=cell_at HY0.out.rule 1 (.slice Ah r.h.length ch) rfl;have x2:=cell_at HY0.out.rule 2 bw rfl;rw [← hbw.out] at x2;have HC6:=Hh (HAG.out _ HY0.out.fut);go_wp2_with (first|(show wpList _ _ _ (Oper.mk _ (Op.store 127 _ _) _ _ _ _ :: _) _ _;refine wpList_store_1 (wanted_none rfl _) _ _ rfl rfl rfl hi3 rfl s0 t0 hy0.out ?_));refine HC6.out.mono ?_;rintro e w6 ⟨rfl,f6⟩;have HE6:=Hh (HY0.out.later f6);clear HC6 x0 x1 x2 f6 s0 t0;have x2:=cell_at HE6.out.rule 2 bw rfl;rw [← hbw.out] at x2;have v0:=HE6.out.fut.cell U0.out;have z0:=cell_at HE6.out.e 0 (.string r.p) rfl;have z1:=cell_at HE6.out.e 1 (.string z.p) rfl;have z2:=cell_at HE6.out.e 2 (.int .i8 4) rfl;have z3:=cell_at HE6.out.e 3 (.int .i64 (k:Nat)) rfl;obtain ⟨Au,cu,rfl,_,_⟩:=HE6.out.list.rep.form;have HO9:=Hh (HE6.out.list.fut REd.stays (Fut.alloc _ (.cells #[.string r.p,.string z.p,.int .i8 4,.int .i64 (k:Nat)] tEdge)));have hsz9:=HE6.out.fut.size;go_wp2_with (first|(at_builtin;refine wpList_append_LB (R:=REd) (B:=w.heap.size) (M:=1) (xs:=L1) (ys:=[⟨r.p,z.p,4,(k:Nat)⟩]) (e:=129) (by go_simp) _ _ tEdges rfl Tryz.underlying88 (.agg #[.string ⟨#[]⟩,.string ⟨#[]⟩,.int .i8 0,.int .i64 0]) 48 infoEd rfl (by decide) REd.one REd.keeps rfl rfl HO9.out (edOne _ r.p z.p 4 (k:Nat) _) ?l3 ?l4 ?b3 ?k3))
         case l3 => simp [maxLen];omega
         case l4 => simp;omega
         case b3 => simp;omega
         case k3 =>
         intro v' w' o' g' sn';have HP9:=HE6.out.push o' g';have HJ9:=Hh (show Fut w w'∧w'.heap[w.heap.size]?=some (.cells #[pv] tPr9 (0,0))∧OwnL 4 w.heap.size tEdge REd w' v' (G++((r.b.take (m+1)).filter Lt.isA).map (r.edge (k:Nat)))∧w'.heap[rb]?=some (.cells #[.string r.p,.slice Ah r.h.length ch,bw] tRu9 (0,0)) from ⟨HP9.1,HP9.2.1,by rw [hkd.out];exact o',HP9.2.2⟩);clear o' g' sn' HP9 v0 x2 z0 z1 z2 z3;go_wp2;go_roundw
         case rel => exact ⟨m+1,by omega,by go_num,HJ9⟩
         case measure => simp [intOf] <;> omega
       ·by_cases hn:z.k=2
        ·have hkd:=Hh (show G++((r.b.take (m+1)).filter Lt.isA).map (r.edge (k:Nat))=L1++[⟨r.p,z.p,2,(k:Nat)⟩] from by rw [hnm2.out,if_pos hn]);have hi3:=infoKd;have s0:=cell_at HE5.out.e 2 _ rfl;have t0:=free_at HE5.out.e 2;obtain ⟨y0,hy0⟩:∃ W,w5.setCell ⟨eb,2,none⟩ (.int .i8 4)=W:=⟨_,rfl⟩
         have HY0:=Hh (show E9S w y0 pv u3 L1 rb #[.string r.p,.slice Ah r.h.length ch,bw] eb r.p z.p 4 (k:Nat) from by rw [← hy0];exact HE5.out.kind 4);replace hy0:=Hh hy0;have x0:=cell_at HY0.out.rule 0 (.string r.p) rfl;have x1:=cell_at HY0.out.rule 1 (.slice Ah r.h.length ch) rfl;have x2:=cell_at HY0.out.rule 2 bw rfl;rw [← hbw.out] at x2;have HC6:=Hh (HAG.out _ HY0.out.fut);go_wp2_with (first|(show wpList _ _ _ (Oper.mk _ (Op.store 127 _ _) _ _ _ _ :: _) _ _;refine wpList_store_1 (wanted_none rfl _) _ _ rfl rfl rfl hi3 rfl s0 t0 hy0.out ?_));refine HC6.out.mono ?_;rintro e w6 ⟨rfl,f6⟩;have HE6:=Hh (HY0.out.later f6);clear HC6 x0 x1 x2 f6 s0 t0;have s1:=cell_at HE6.out.e 2 _ rfl;have t1:=free_at HE6.out.e 2;obtain ⟨y1,hy1⟩:∃ W,w6.setCell ⟨eb,2,none⟩ (.int .i8 3)=W:=⟨_,rfl⟩
         have HY1:=Hh (show E9S w y1 pv u3 L1 rb #[.string r.p,.slice Ah r.h.length ch,bw] eb r.p z.p 3 (k:Nat) from by rw [← hy1];exact HE6.out.kind 3);replace hy1:=Hh hy1;have x2:=cell_at HY1.out.rule 2 bw rfl;rw [← hbw.out] at x2;have v0:=HY1.out.fut.cell U0.out;have s2:=cell_at HY1.out.e 2 _ rfl;have t2:=free_at HY1.out.e 2;obtain ⟨y2,hy2⟩:∃ W,y1.setCell ⟨eb,2,none⟩ (.int .i8 2)=W:=⟨_,rfl⟩
         have HY2:=Hh (show E9S w y2 pv u3 L1 rb #[.string r.p,.slice Ah r.h.length ch,bw] eb r.p z.p 2 (k:Nat) from by rw [← hy2];exact HY1.out.kind 2);replace hy2:=Hh hy2;rw [hn] at v0;have z0:=cell_at HY2.out.e 0 (.string r.p) rfl;have z1:=cell_at HY2.out.e 1 (.string z.p) rfl;have z2:=cell_at HY2.out.e 2 (.int .i8 2) rfl;have z3:=cell_at HY2.out.e 3 (.int .i64 (k:Nat)) rfl;obtain ⟨Au,cu,rfl,_,_⟩:=HE6.out.list.rep.form;have HO9:=Hh (HY2.out.list.fut REd.stays (Fut.alloc _ (.cells #[.string r.p,.string z.p,.int .i8 2,.int .i64 (k:Nat)] tEdge)));have hsz9:=HY2.out.fut.size;go_wp2_with (first|(show wpList _ _ _ (Oper.mk _ (Op.store 127 _ _) _ _ _ _ :: _) _ _;refine wpList_store_1 (wanted_none rfl _) _ _ rfl rfl rfl hi3 rfl s1 t1 hy1.out ?_)|(show wpList _ _ _ (Oper.mk _ (Op.store 127 _ _) _ _ _ _ :: _) _ _;refine wpList_store_1 (wanted_none rfl _) _ _ rfl rfl rfl hi3 rfl s2 t2 hy2.out ?_)|(at_builtin;refine wpList_append_LB (R:=REd) (B:=w.heap.size) (M:=1) (xs:=L1) (ys:=[⟨r.p,z.p,2,(k:Nat)⟩]) (e:=129) (by go_simp) _ _ tEdges rfl Tryz.underlying88 (.agg #[.string ⟨#[]⟩,.string ⟨#[]⟩,.int .i8 0,.int .i64 0]) 48 infoEd rfl (by decide) REd.one REd.keeps rfl rfl HO9.out (edOne _ r.p z.p 2 (k:Nat) _) ?l3 ?l4 ?b3 ?k3))
         case l3 => simp [maxLen];omega
         case l4 => simp;omega
         case b3 => simp;omega
         case k3 =>
         intro v' w' o' g' sn';have HP9:=HY2.out.push o' g';have HJ9:=Hh (show Fut w w'∧w'.heap[w.heap.size]?=some (.cells #[pv] tPr9 (0,0))∧OwnL 4 w.heap.size tEdge REd w' v' (G++((r.b.take (m+1)).filter Lt.isA).map (r.edge (k:Nat)))∧w'.heap[rb]?=some (.cells #[.string r.p,.slice Ah r.h.length ch,bw] tRu9 (0,0)) from ⟨HP9.1,HP9.2.1,by rw [hkd.out];exact o',HP9.2.2⟩);clear o' g' sn' HP9 v0 x2 z0 z1 z2 z3 s1 t1 s2 t2;go_wp2;go_roundw
         case rel => exact ⟨m+1,by omega,by go_num,HJ9⟩
         case measure => simp [intOf] <;> omega
        ·have hkd:=Hh (show G++((r.b.take (m+1)).filter Lt.isA).map (r.edge (k:Nat))=L1++[⟨r.p,z.p,3,(k:Nat)⟩] from by rw [hnm2.out,if_neg hn];rfl);have hnb:(z.k == 2)=false:=by rw [beq_eq_false_iff_ne];exact hn
         have hi3:=infoKd;have s0:=cell_at HE5.out.e 2 _ rfl;have t0:=free_at HE5.out.e 2;obtain ⟨y0,hy0⟩:∃ W,w5.setCell ⟨eb,2,none⟩ (.int .i8 4)=W:=⟨_,rfl⟩
         have HY0:=Hh (show E9S w y0 pv u3 L1 rb #[.string r.p,.slice Ah r.h.length ch,bw] eb r.p z.p 4 (k:Nat) from by rw [← hy0];exact HE5.out.kind 4);replace hy0:=Hh hy0;have x0:=cell_at HY0.out.rule 0 (.string r.p) rfl;have x1:=cell_at HY0.out.rule 1 (.slice Ah r.h.length ch) rfl;have x2:=cell_at HY0.out.rule 2 bw rfl;rw [← hbw.out] at x2;have HC6:=Hh (HAG.out _ HY0.out.fut);go_wp2_with (first|(show wpList _ _ _ (Oper.mk _ (Op.store 127 _ _) _ _ _ _ :: _) _ _;refine wpList_store_1 (wanted_none rfl _) _ _ rfl rfl rfl hi3 rfl s0 t0 hy0.out ?_));refine HC6.out.mono ?_;rintro e w6 ⟨rfl,f6⟩;have HE6:=Hh (HY0.out.later f6);clear HC6 x0 x1 x2 f6 s0 t0;have s1:=cell_at HE6.out.e 2 _ rfl;have t1:=free_at HE6.out.e 2;obtain ⟨y1,hy1⟩:∃ W,w6.setCell ⟨eb,2,none⟩ (.int .i8 3)=W:=⟨_,rfl⟩
         have HY1:=Hh (show E9S w y1 pv u3 L1 rb #[.string r.p,.slice Ah r.h.length ch,bw] eb r.p z.p 3 (k:Nat) from by rw [← hy1];exact HE6.out.kind 3);replace hy1:=Hh hy1;have x2:=cell_at HY1.out.rule 2 bw rfl;rw [← hbw.out] at x2;have v0:=HY1.out.fut.cell U0.out;have z0:=cell_at HY1.out.e 0 (.string r.p) rfl;have z1:=cell_at HY1.out.e 1 (.string z.p) rfl;have z2:=cell_at HY1.out.e 2 (.int .i8 3) rfl;have z3:=cell_at HY1.out.e 3 (.int .i64 (k:Nat)) rfl;obtain ⟨Au,cu,rfl,_,_⟩:=HE6.out.list.rep.form;have HO9:=Hh (HY1.out.list.fut REd.stays (Fut.alloc _ (.cells #[.string r.p,.string z.p,.int .i8 3,.int .i64 (k:Nat)] tEdge)));have hsz9:=HY1.out.fut.size;go_wp2_with (first|(show wpList _ _ _ (Oper.mk _ (Op.store 127 _ _) _ _ _ _ :: _) _ _;refine wpList_store_1 (wanted_none rfl _) _ _ rfl rfl rfl hi3 rfl s1 t1 hy1.out ?_)|(at_builtin;refine wpList_append_LB (R:=REd) (B:=w.heap.size) (M:=1) (xs:=L1) (ys:=[⟨r.p,z.p,3,(k:Nat)⟩]) (e:=129) (by go_simp) _ _ tEdges rfl Tryz.underlying88 (.agg #[.string ⟨#[]⟩,.string ⟨#[]⟩,.int .i8 0,.int .i64 0]) 48 infoEd rfl (by decide) REd.one REd.keeps rfl rfl HO9.out (edOne _ r.p z.p 3 (k:Nat) _) ?l3 ?l4 ?b3 ?k3))
         case l3 => simp [maxLen];omega
         case l4 => simp;omega
         case b3 => simp;omega
         case k3 =>
         intro v' w' o' g' sn';have HP9:=HY1.out.push o' g';have HJ9:=Hh (show Fut w w'∧w'.heap[w.heap.size]?=some (.cells #[pv] tPr9 (0,0))∧OwnL 4 w.heap.size tEdge REd w' v' (G++((r.b.take (m+1)).filter Lt.isA).map (r.edge (k:Nat)))∧w'.heap[rb]?=some (.cells #[.string r.p,.slice Ah r.h.length ch,bw] tRu9 (0,0)) from ⟨HP9.1,HP9.2.1,by rw [hkd.out];exact o',HP9.2.2⟩);clear o' g' sn' HP9 v0 x2 z0 z1 z2 z3 s1 t1;go_wp2;go_roundw
         case rel => exact ⟨m+1,by omega,by go_num,HJ9⟩
         case measure => simp [intOf] <;> omega
    ·obtain rfl:m=r.b.length:=by omega
     have HK:=Hh (show Fut w wz∧wz.heap[w.heap.size]?=some (.cells #[pv] tPr9 (0,0))∧OwnL 4 w.heap.size tEdge REd wz u3 (edgesP (rs.take (k+1))) from ⟨hJ.out.1,hJ.out.2.1,by rw [hnx.out];exact hJ.out.2.2.1⟩);clear hJ;go_wp2;go_roundw
     case rel => exact ⟨k+1,by omega,by go_num,HK⟩
     case measure => simp [intOf] <;> omega
  ·obtain rfl:k=rs.length:=by omega
   rw [List.take_length] at hI;go_wp2;go_ret;exact ⟨_,rfl,hI.out.2.2,hI.out.1⟩
theorem rhasT {M:Nat} (s:ByteArray) (A:Option Addr) (c:Nat) (L:List ByteArray) (w:World) (h:SlRep 1 M RNm w (.slice A L.length c) L) (hM:M≤9223372036854775807) (hs:s ∈ L) :
    Calls Tryz.prog 30 #[.slice A L.length c,.string s] w fun e w' => e = .returned (.bool true)∧w'=w:=by
 have h9:=rhas9_any s A c L w h hM;rw [decide_eq_true hs] at h9;exact h9
theorem rhasN {M:Nat} (s:ByteArray) (A:Option Addr) (c:Nat) (L:List ByteArray) (w:World) (h:SlRep 1 M RNm w (.slice A L.length c) L) (hM:M≤9223372036854775807) (hs:s ∉ L) :
    Calls Tryz.prog 30 #[.slice A L.length c,.string s] w fun e w' => e = .returned (.bool false)∧w'=w:=by
 have h9:=rhas9_any s A c L w h hM;rw [decide_eq_false hs] at h9;exact h9
theorem ba_neW {x y:ByteArray} (h:x≠y):(x.toList == y.toList)=false:=by
 rw [beq_eq_false_iff_ne];intro e;rw [ByteArray.toList_eq,ByteArray.toList_eq] at e;exact h (ByteArray.ext (Array.toList_inj.1 e))
set_option maxHeartbeats 8000000 in
set_option maxRecDepth 100000 in
theorem rreach_any {M:Nat} (A:Option Addr) (c:Nat) (rs:List Ru) (es:List Ed) (p:ByteArray) (w:World) (hes:edgesP rs=es) (h:SlRep 4 M REd w (.slice A es.length c) es) (hM:M≤9223372036854775807) (hel:es.length≤10000000) :
    Calls Tryz.prog 81 #[.slice A es.length c,.string p] w fun e w' => ∃ v L,e = .returned v∧ReachOf rs p L∧OwnL 1 w.heap.size 9 RNm w' v L∧Fut w w':=by
 have HE:=Hh h;have Hes:=Hh hes;clear h hes;have F0:=Fut.alloc w (.cells #[.string p] 9)
 have hO0:OwnL 1 w.heap.size 9 RNm (w.alloc (.cells #[.string p] 9)) (.slice (some ⟨w.heap.size,0,none⟩) [p].length 1) [p] :=
  ⟨[[.string p]],rfl,fun i cs x hi hx => by
   match i,hi,hx with
   | 0,hi,hx => injection hi with hi;injection hx with hx;subst hi;subst hx;exact ⟨rfl,rfl⟩
   | i+1,hi,hx => simp at hx,rfl,.inr ⟨w.heap.size,1,#[.string p],rfl,Nat.le_refl _,heap_alloc_new w _,Nat.le_refl _,by unfold maxLen;omega,rfl,rfl⟩⟩
 have HO0:=Hh hO0;have F0h:=Hh F0;clear F0 hO0;go_enter Tryz.func81,Tryz.ntmps81;go_wp2_with fail;go_loopw [5,6,7] (fun u i _ W => ∃ (seen:List ByteArray) (j:Nat),i = .int .i64 j∧j≤seen.length∧Hid (Bf es (fun _ => True) p seen j 0)∧Hid (Nms w.heap.size W u seen)∧Hid (Fut w W)) (fun _ i _ _ => es.length+2 - (intOf i).toNat)
 case atStart => exact ⟨[p],0,rfl,Nat.zero_le _,Hh (Bf.start es _ p),HO0,F0h⟩
 case round =>
  clear HO0 F0h;obtain ⟨seen,j,rfl,hj,hR,hO,hF⟩:=hrel;obtain ⟨wq,hwq⟩:∃ x,x=wr:=⟨_,rfl⟩
  subst hwq;have hsl:=hR.out.len;obtain ⟨Au,cu,rfl,hu1,hu2⟩:=hO.out.rep.form
  by_cases hlt:j<seen.length
  ·have hltI:(j:Int)<seen.length:=by omega
   have hR0:=Hh (show ∃ seen',seen'[j]?=some seen[j]∧Bf es (fun _ => True) p seen' j 0∧Nms _ wq (.slice Au seen.length cu) seen' from ⟨seen,List.getElem?_eq_getElem hlt,hR.out,hO.out⟩);obtain ⟨x,hx⟩:∃ x,seen[j]=x:=⟨_,rfl⟩
   rw [hx] at hR0;clear hR hO hx;go_wp2_with fail;go_loopw [5,7] (fun u i W => ∃ (seen:List ByteArray) (k:Nat),i = .int .i64 k∧k≤es.length∧Hid (seen[j]?=some x)∧Hid (Bf es (fun _ => True) p seen j k)∧Hid (Nms w.heap.size W u seen)∧Hid (Fut w W)) (fun _ i _ => es.length - (intOf i).toNat)
   case atStart =>
    obtain ⟨seen',q1,q2,q3⟩:=hR0.out;exact ⟨seen',0,rfl,Nat.zero_le _,Hh q1,Hh q2,Hh q3,hF⟩
   case round =>
    clear hR0 hF;obtain ⟨sn,k,rfl,hk,hX,hR,hO,hF⟩:=hrel;obtain ⟨wz,hwz⟩:∃ x,x=wr:=⟨_,rfl⟩
    subst hwz;have hsl2:=hR.out.len;obtain ⟨Av,cv,rfl,hv1,hv2⟩:=hO.out.rep.form
    by_cases hkl:k<es.length
    ·have hkI:(k:Int)<es.length:=by omega
     have e0:(0:Int)≤k∧(k:Int)<es.length:=by omega
     obtain ⟨be,oe,rfl,hce⟩:=ed_at (HE.out.fut REd.stays hF.out) hkl;have hjl:j<sn.length:=(List.getElem?_eq_some_iff.1 hX.out).1;obtain ⟨bs,os,rfl,xs0⟩:=nm_at hO.out.rep hjl
     have hxj:sn[j]=x:=by
      have h9:=hX.out;rw [List.getElem?_eq_getElem hjl] at h9;exact Option.some.inj h9
     rw [hxj] at xs0;have hjI:(j:Int)<sn.length:=by omega
     have e1:(0:Int)≤j∧(j:Int)<sn.length:=by omega
     have HSk:=Hh (fun hx => hR.out.skip hkl hx);have HPu:=Hh (fun hf hn => hR.out.push (x:=x) hkl hX.out trivial hf hn);generalize es[k]=e at *;have u0:wz.cell? ⟨be,oe+k * 4,none⟩=some (.string e.f):=hce 0 _ rfl;have u1:=hce 1 _ rfl;clear hce hxj
     by_cases hf:e.f=x
     rotate_left
     ·have hfb:=ba_neW hf;have HR2:=Hh (HSk.out fun y hy _ hfy => absurd (hfy.trans (Option.some.inj (hy.symm.trans hX.out))) hf);clear HSk HPu;go_wp2_with fail;refine wp_graph 20 [.d,.d,.d,.d,.d,.d,.d,.d,.d,.d,.d,.d,.d,.d,.d,.d,.d,.d,.d,.d] (by kernel_rfl) (by kernel_rfl) (by kernel_rfl) ?_;simp only [takS,Exs]
      iterate 20 apply Exists.intro
      iterate 4
       apply Run.valG (wanted_none rfl _)
       ·intro w1 h1 hk;go_simp;rfl
       simp only [actS]
      apply Run.valG (wanted_none rfl _)
      ·intro w1 h1 hk;have q0:=h1.cell u0;have q1:=h1.cell xs0;have hcw:=fun b o => Below.cell (p:=⟨b,o,none⟩) h1;go_simp;rfl
      simp only [actS]
      iterate 3
       apply Run.valG (wanted_none rfl _)
       ·intro w1 h1 hk;go_simp;rfl
       simp only [actS]
      apply Run.valG (wanted_none rfl _)
      ·intro w1 h1 hk;have q0:=h1.cell u0;have q1:=h1.cell xs0;have hcw:=fun b o => Below.cell (p:=⟨b,o,none⟩) h1;go_simp;rfl
      simp only [actS]
      iterate 2
       apply Run.valG (wanted_none rfl _)
       ·intro w1 h1 hk;go_simp;rfl
       simp only [actS]
      iterate 8
       apply Run.skip (by first|(go_simp;done)|(go_simp;exact fun h => nomatch h));simp only [actS]
      apply Run.valG (wanted_none rfl _)
      ·intro w1 h1 hk;go_simp;rfl
      simp only [actS];apply Run.done;intro w2 h2 hk;clear hk;have f2:=(Fut.drew _).trans h2;have HF2:=Hh (hF.out.trans f2);have HO2:=Hh (hO.out.fut RNm.stays f2);clear f2 h2;go_wp2;go_roundw
      case rel => exact ⟨sn,k+1,by go_num,by omega,hX,HR2,HO2,HF2⟩
      case measure => simp [intOf] <;> omega
     ·rw [hf] at u0;have hfb:(x.toList == x.toList)=true:=by simp
      by_cases hin:e.t ∈ sn
      ·have HH:=Hh (fun W (hW:Fut wz W) => rhasT e.t (some ⟨bs,os,none⟩) cv sn W (hO.out.rep.fut RNm.stays hW) (by decide) hin);have HR2:=Hh (HSk.out fun y hy _ hfy => hin);clear HSk HPu;go_wp2_with fail;refine wp_graph 20 [.d,.d,.d,.d,.d,.d,.d,.d,.d,.d,.d,.d,.d,.d,.d,.d,.d,.d,.d,.d] (by kernel_rfl) (by kernel_rfl) (by kernel_rfl) ?_;simp only [takS,Exs]
       iterate 20 apply Exists.intro
       iterate 4
        apply Run.valG (wanted_none rfl _)
        ·intro w1 h1 hk;go_simp;rfl
        simp only [actS]
       apply Run.valG (wanted_none rfl _)
       ·intro w1 h1 hk;have q0:=h1.cell u0;have q1:=h1.cell xs0;have q2:=h1.cell u1;have hg:=(Fut.drew _).trans h1;have hcw:=fun b o => Below.cell (p:=⟨b,o,none⟩) h1;go_simp;rfl
       simp only [actS]
       iterate 3
        apply Run.valG (wanted_none rfl _)
        ·intro w1 h1 hk;go_simp;rfl
        simp only [actS]
       apply Run.valG (wanted_none rfl _)
       ·intro w1 h1 hk;have q0:=h1.cell u0;have q1:=h1.cell xs0;have q2:=h1.cell u1;have hg:=(Fut.drew _).trans h1;have hcw:=fun b o => Below.cell (p:=⟨b,o,none⟩) h1;go_simp;rfl
       simp only [actS]
       iterate 2
        apply Run.valG (wanted_none rfl _)
        ·intro w1 h1 hk;go_simp;rfl
        simp only [actS]
       iterate 5
        apply Run.valG (by go_simp)
        ·intro w1 h1 hk;go_simp;rfl
        simp only [actS]
       apply Run.valG (by go_simp)
       ·intro w1 h1 hk;have q0:=h1.cell u0;have q1:=h1.cell xs0;have q2:=h1.cell u1;have hg:=(Fut.drew _).trans h1;have hcw:=fun b o => Below.cell (p:=⟨b,o,none⟩) h1;go_simp;rfl
       simp only [actS];apply Run.call (by go_simp) (fun _ _ => by go_simp;exact ⟨rfl,rfl⟩)
       ·intro w1 h1 hk;have q0:=h1.cell u0;have q1:=h1.cell xs0;have q2:=h1.cell u1;have hg:=(Fut.drew _).trans h1;refine (HH.out _ hg).mono ?_;rintro e9 w9 ⟨rfl,rfl⟩;exact ⟨rfl,Fut.refl _⟩
       simp only [actS];apply Run.valG (by go_simp)
       ·intro w1 h1 hk;go_simp;rfl
       simp only [actS];apply Run.valG (wanted_none rfl _)
       ·intro w1 h1 hk;go_simp;rfl
       simp only [actS];apply Run.done;intro w2 h2 hk;clear hk;have f2:=(Fut.drew _).trans h2;have HF2:=Hh (hF.out.trans f2);have HO2:=Hh (hO.out.fut RNm.stays f2);clear f2 h2 HH;go_wp2;go_roundw
       case rel => exact ⟨sn,k+1,by go_num,by omega,hX,HR2,HO2,HF2⟩
       case measure => simp [intOf] <;> omega
      ·have HH:=Hh (fun W (hW:Fut wz W) => rhasN e.t (some ⟨bs,os,none⟩) cv sn W (hO.out.rep.fut RNm.stays hW) (by decide) hin);have HR2:=Hh (HPu.out hf hin);have HX2:=Hh (show (sn++[e.t])[j]?=some x from by rw [List.getElem?_append_left hjl];exact hX.out);clear HSk HPu hX;go_wp2_with fail;refine wp_graph 20 [.d,.d,.d,.d,.d,.d,.d,.d,.d,.d,.d,.d,.d,.d,.d,.d,.d,.d,.d,.d] (by kernel_rfl) (by kernel_rfl) (by kernel_rfl) ?_;simp only [takS,Exs]
       iterate 20 apply Exists.intro
       iterate 4
        apply Run.valG (wanted_none rfl _)
        ·intro w1 h1 hk;go_simp;rfl
        simp only [actS]
       apply Run.valG (wanted_none rfl _)
       ·intro w1 h1 hk;have q0:=h1.cell u0;have q1:=h1.cell xs0;have q2:=h1.cell u1;have hg:=(Fut.drew _).trans h1;have hcw:=fun b o => Below.cell (p:=⟨b,o,none⟩) h1;go_simp;rfl
       simp only [actS]
       iterate 3
        apply Run.valG (wanted_none rfl _)
        ·intro w1 h1 hk;go_simp;rfl
        simp only [actS]
       apply Run.valG (wanted_none rfl _)
       ·intro w1 h1 hk;have q0:=h1.cell u0;have q1:=h1.cell xs0;have q2:=h1.cell u1;have hg:=(Fut.drew _).trans h1;have hcw:=fun b o => Below.cell (p:=⟨b,o,none⟩) h1;go_simp;rfl
       simp only [actS]
       iterate 2
        apply Run.valG (wanted_none rfl _)
        ·intro w1 h1 hk;go_simp;rfl
        simp only [actS]
       iterate 5
        apply Run.valG (by go_simp)
        ·intro w1 h1 hk;go_simp;rfl
        simp only [actS]
       apply Run.valG (by go_simp)
       ·intro w1 h1 hk;have q0:=h1.cell u0;have q1:=h1.cell xs0;have q2:=h1.cell u1;have hg:=(Fut.drew _).trans h1;have hcw:=fun b o => Below.cell (p:=⟨b,o,none⟩) h1;go_simp;rfl
       simp only [actS];apply Run.call (by go_simp) (fun _ _ => by go_simp;exact ⟨rfl,rfl⟩)
       ·intro w1 h1 hk;have q0:=h1.cell u0;have q1:=h1.cell xs0;have q2:=h1.cell u1;have hg:=(Fut.drew _).trans h1;refine (HH.out _ hg).mono ?_;rintro e9 w9 ⟨rfl,rfl⟩;exact ⟨rfl,Fut.refl _⟩
       simp only [actS];apply Run.valG (by go_simp)
       ·intro w1 h1 hk;go_simp;rfl
       simp only [actS];apply Run.valG (wanted_none rfl _)
       ·intro w1 h1 hk;go_simp;rfl
       simp only [actS];apply Run.done;intro w2 h2 hk;clear hk;have f2:=(Fut.drew _).trans h2;have v1:=f2.cell u1;have HF2:=Hh (hF.out.trans f2);have HO2:=Hh (hO.out.fut RNm.stays f2);have hsz2:=HF2.out.size;clear f2 h2 HH u0 u1 xs0;go_wp2_with (first|(at_builtin;refine wpList_append_LB (R:=RNm) (B:=w.heap.size) (M:=1) (xs:=sn) (ys:=[e.t]) (e:=9) (by go_simp) _ _ tVl' rfl Tryz.underlying76 (.string ⟨#[]⟩) 16 infoNm rfl (by decide) RNm.one RNm.keeps rfl rfl (HO2.out.fut RNm.stays (Fut.alloc _ _)) (nmOne _ _ _) ?l3 ?m3 ?b3 ?k3))
       case l3 => simp [maxLen];omega
       case m3 => simp;omega
       case b3 => simp;omega
       case k3 =>
       intro v' w' o' g' sn';have HO4:=Hh o';have HF4:=Hh ((HF2.out.trans (Fut.alloc _ _)).grown g' (fun k hk => (HO2.out.block k hk).1));clear o' g' sn';go_wp2;go_roundw
       case rel => exact ⟨sn++[e.t],k+1,by go_num,by omega,HX2,HR2,HO4,HF4⟩
       case measure => simp [intOf] <;> omega
    ·obtain rfl:k=es.length:=by omega
     have hjl:j<sn.length:=(List.getElem?_eq_some_iff.1 hX.out).1;have HR2:=Hh (hR.out.next hjl);clear hR;go_wp2;go_roundw
     case rel => exact ⟨sn,j+1,by go_num,by omega,HR2,hO,hF⟩
     case measure => simp [intOf] <;> omega
  ·obtain rfl:j=seen.length:=by omega
   have HBf:=Hh (show ∀ x,x ∈ seen↔Rch (drawP rs) p x from fun x => Bf.rch (k:=0) (ok:=fun _ => True) (by rw [Hes.out];exact hR.out) (fun _ _ => trivial) x);have HSn:=Hh hO.out;have HFs:=Hh hF.out;clear hR hO hF;go_wp2_with fail;go_loopw [8,9] (fun u i W => ∃ (k:Nat) (out:List ByteArray),i = .int .i64 k∧k≤seen.length∧Hid (out.length≤k)∧Hid (Up cmpS out∧∀ x,x ∈ out↔x ∈ seen.take k)∧Hid (Nms w.heap.size W u out)∧Hid (Fut wq W)) (fun _ i _ => seen.length - (intOf i).toNat)
   case atStart => exact ⟨0,[],rfl,Nat.zero_le _,Hh (Nat.zero_le _),Hh ⟨List.Pairwise.nil,fun x => by simp⟩,Hh OwnL.nil,Hh (Fut.refl _)⟩
   case round =>
    obtain ⟨k,out,rfl,hk,hl9,hU,hO2,hG⟩:=hrel;obtain ⟨wz,hwz⟩:∃ x,x=wr:=⟨_,rfl⟩
    subst hwz;obtain ⟨Av,cv,rfl,hv1,hv2⟩:=hO2.out.rep.form
    by_cases hkl:k<seen.length
    ·have hkI:(k:Int)<seen.length:=by omega
     have e0:(0:Int)≤k∧(k:Int)<seen.length:=by omega
     obtain ⟨bs,os,rfl,x0⟩:=nm_at (HSn.out.rep.fut RNm.stays hG.out) hkl;have Htk:=Hh (show seen.take (k+1)=seen.take k++[seen[k]] from List.take_succ_eq_append_getElem hkl);generalize seen[k]=y at *;have hb9:=HFs.out.size;have HPt:=Hh (fun W (hW:Fut wz W) => rput_any (B:=w.heap.size) y Av cv out W (hO2.out.fut RNm.stays hW) hU.out.1 (Nat.le_trans (Nat.le_trans hb9 hG.out.size) hW.size) (by have:=hl9.out;omega));go_wp2_with fail;refine (HPt.out _ (Fut.refl _)).mono ?_;rintro e w9 ⟨v9,L9,rfl,hO9,hU9,hm9,hln,hf9⟩;have HO9:=Hh hO9;have HU9:=Hh (show Up cmpS L9∧∀ x,x ∈ L9↔x ∈ seen.take (k+1) from ⟨hU9,fun x => by rw [hm9,hU.out.2,Htk.out,List.mem_append,List.mem_singleton]⟩);have HL9:=Hh (show L9.length≤k+1 from by have:=hl9.out;omega);have HG9:=Hh (hG.out.trans hf9);clear hO9 hU9 hm9 hln hf9 HPt;go_wp2;go_roundw
     case rel => exact ⟨k+1,L9,by go_num,by omega,HL9,HU9,HO9,HG9⟩
     case measure => simp [intOf] <;> omega
    ·obtain rfl:k=seen.length:=by omega
     have hfin:ReachOf rs p out:=⟨hU.out.1,fun x => by rw [hU.out.2,List.take_length];exact HBf.out x⟩
     have Hfin:=Hh hfin;clear hfin;go_wp2;go_ret;exact ⟨_,out,rfl,Hfin.out,hO2.out,HFs.out.trans hG.out⟩
end Go.Proofs.YtobabnpllokkaaaGreatDoor
namespace Go.Proofs.YtobabnpllokkaaaGreatDoor
open Go.RowKit
section
variable {rs:List Ru} {L:List ByteArray}
end
end Go.Proofs.YtobabnpllokkaaaGreatDoor
namespace Go.Proofs.YtobabnpllokkaaaGreatDoor
open Go.RowKit Go.WideMaps Go.Maps
set_option maxHeartbeats 1600000 in
theorem rcomes_any {M:Nat} (A:Option Addr) (c:Nat) (rs:List Ru) (es:List Ed) (p q:ByteArray) (w:World) (hes:edgesP rs=es) (h:SlRep 4 M REd w (.slice A es.length c) es) (hM:M≤9223372036854775807) (hel:es.length≤10000000) :
    Calls Tryz.prog 31 #[.slice A es.length c,.string p,.string q] w fun e w' => ∃ b,e = .returned (.bool b)∧(b=true↔Rch (drawP rs) p q)∧Fut w w':=by
 have HR:=Hh (rreach_any A c rs es p w hes h hM hel);clear h hes;go_enter Tryz.func31,Tryz.ntmps31;go_wp2_with fail;refine HR.out.mono ?_;rintro e w1 ⟨v,L,rfl,hL,hO,f1⟩;obtain ⟨A1,c1,rfl,_,_⟩:=hO.rep.form;have HH:=Hh (rhas9_any q A1 c1 L w1 hO.rep (by decide));have hq:decide (q ∈ L)=true↔Rch (drawP rs) p q:=by rw [decide_eq_true_iff];exact hL.2 q
 have Hq:=Hh hq;have F1:=Hh f1;generalize decide (q ∈ L)=b at *;clear hO hL hq f1;go_wp2_with fail;refine HH.out.mono ?_;rintro e w2 ⟨rfl,rfl⟩;go_wp2;go_ret;exact ⟨b,rfl,Hq.out,F1.out⟩
theorem rcomesT {M:Nat} (A:Option Addr) (c:Nat) (rs:List Ru) (es:List Ed) (p q:ByteArray) (w:World) (hes:edgesP rs=es) (h:SlRep 4 M REd w (.slice A es.length c) es) (hM:M≤9223372036854775807) (hel:es.length≤10000000) (hr:Rch (drawP rs) p q) :
    Calls Tryz.prog 31 #[.slice A es.length c,.string p,.string q] w fun e w' => e = .returned (.bool true)∧Fut w w':=by
 refine (rcomes_any A c rs es p q w hes h hM hel).mono ?_;rintro e w' ⟨b,rfl,hb,hf⟩;rw [hb.2 hr];exact ⟨rfl,hf⟩
theorem rcomesN {M:Nat} (A:Option Addr) (c:Nat) (rs:List Ru) (es:List Ed) (p q:ByteArray) (w:World) (hes:edgesP rs=es) (h:SlRep 4 M REd w (.slice A es.length c) es) (hM:M≤9223372036854775807) (hel:es.length≤10000000) (hr:¬ Rch (drawP rs) p q) :
    Calls Tryz.prog 31 #[.slice A es.length c,.string p,.string q] w fun e w' => e = .returned (.bool false)∧Fut w w':=by
 refine (rcomes_any A c rs es p q w hes h hM hel).mono ?_;rintro e w' ⟨b,rfl,hb,hf⟩;cases b
 ·exact ⟨rfl,hf⟩
 ·exact absurd (hb.1 rfl) hr
end Go.Proofs.YtobabnpllokkaaaGreatDoor
namespace Go.Proofs.YtobabnpllokkaaaGreatDoor
open Go.RowKit Go.WideMaps Go.Maps
theorem preds_sorted {rs:List Ru} {L:List ByteArray} (hU:Up cmpS L) (hm:∀ x,x ∈ L↔x ∈ rs.flatMap Ru.nN):L=(drawP rs).sorted:=by
 obtain ⟨h1,h2⟩:=sortU_spec totS (drawP rs).names;exact Up.uniq totS hU h1 fun x => by rw [hm,← (draw_ok rs).nm];exact (h2 x).symm
def Ru.nA (r:Ru) (k:Nat):List ByteArray:=((r.b.take k).filter Lt.isA).map fun l => l.p
theorem Ru.nA_succ (r:Ru) {k:Nat} (hk:k<r.b.length):r.nA (k+1)=r.nA k++(if r.b[k].isA=true then [r.b[k].p] else []):=by
 unfold Ru.nA;rw [List.take_succ_eq_append_getElem hk,List.filter_append,List.map_append]
 by_cases h:r.b[k].isA=true <;> simp [h]
theorem Ru.nA_all (r:Ru):r.p :: r.nA r.b.length=r.nN:=by
 unfold Ru.nA Ru.nN;rw [List.take_length]
theorem nN_take {rs:List Ru} {k:Nat} (hk:k<rs.length):(rs.take (k+1)).flatMap Ru.nN=(rs.take k).flatMap Ru.nN++rs[k].nN:=by
 rw [List.take_succ_eq_append_getElem hk,List.flatMap_append];simp
end Go.Proofs.YtobabnpllokkaaaGreatDoor
