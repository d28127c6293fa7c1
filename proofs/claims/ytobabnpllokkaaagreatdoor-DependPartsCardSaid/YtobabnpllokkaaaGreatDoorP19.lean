/- Parts. -/
import Derived.Test.YtobabnpllokkaaaGreatDoorP18
import Derived.Test.YtobabnpllokkaaaGreatDoorP05
import Derived.Test.YtobabnpllokkaaaGreatDoorP08
import Derived.Test.YtobabnpllokkaaaGreatDoorP00
set_option linter.unusedSimpArgs false
set_option linter.unusedVariables false
namespace Go.Proofs.YtobabnpllokkaaaGreatDoor
open Go.RowKit
theorem infoEx6':(Tryz.prog.info? 118).map (·.size)=some 6:=by kernel_rfl
theorem empty_of {s:ByteArray} (h:s.toList=[]):s=⟨#[]⟩:=by
 rw [ByteArray.toList_eq] at h;exact ByteArray.ext (Array.toList_inj.1 (by simpa using h))
def RexOk (n:Nat):Prop:=∀ (x:Ex) (cs:List Value) (m:Nat) (W:World),RE m W cs x→Calls Tryz.prog 350 #[.agg cs.toArray,.int .i64 n] W fun e W' => e = .returned (.bool (deepE n x))∧Fut W W'
set_option maxHeartbeats 4000000 in
set_option maxRecDepth 100000 in
theorem rexpr_any:∀ n,n<1000→RexOk n
 | 0,_ => fun x cs m w h => by
  obtain ⟨m',op,⟨v,⟨k,n,s⟩⟩,ks,A,c,rfl,rfl,rfl,_,_,_⟩:=ex_form h;dsimp only;generalize ks.length=l at *;go_enter Tryz.func350,Tryz.ntmps350;go_wp2;go_ret;exact ⟨rfl,Fut.alloc _ _⟩
 | d+1,hd => fun x cs m w h => by
  have IH:=Hh (rexpr_any d (by omega));obtain ⟨m',op,⟨v,⟨k,n,s⟩⟩,ks,A,c,rfl,rfl,rfl,hc1,hc2,hks⟩:=ex_form h;obtain ⟨kvx,hkx,_,hok,hkk⟩:=h;clear hkx hkk;dsimp only at *;obtain ⟨b,hb⟩:∃ b,deepE (d+1) (Ex.mk op ⟨v,⟨k,n,s⟩⟩ ks)=b:=⟨_,rfl⟩
  rw [hb];replace hb:(if op=0 then decide (ks.length=0) && Tm.solid ⟨v,⟨k,n,s⟩⟩ else Tm.zero ⟨v,⟨k,n,s⟩⟩ && decide ((ks.length:Int)=arityE op) && ks.all (deepE d))=b:=hb;have hbx:=heap_alloc_new w (.cells #[.int .i8 op,.string v,.int .i8 k,.int .i64 n,.string s,.slice A ks.length c] 118);have f0:=Fut.alloc w (.cells #[.int .i8 op,.string v,.int .i8 k,.int .i64 n,.string s,.slice A ks.length c] 118);have HK:=Hh hks;have HT:=Hh (fun W => rterm_any ⟨v,⟨k,n,s⟩⟩ W hok);obtain ⟨D,hD⟩:∃ D:Int,((d+1:Nat):Int)=D:=⟨_,rfl⟩
  rw [hD];have hdI:¬ (D=0):=by omega
  have hdb:(D == 0)=false:=by rw [beq_eq_false_iff_ne];exact hdI
  have hD1:D - 1=(d:Int):=by omega
  replace hD:=Hh hD;have hxl:ks.length≤9223372036854775807:=by omega
  clear hks hok hc1 hc2
  by_cases h0:op=0
  ·subst h0;rw [if_pos rfl] at hb;have x1:=cell_at hbx 1 _ rfl;have x2:=cell_at hbx 2 _ rfl;have x3:=cell_at hbx 3 _ rfl;have x4:=cell_at hbx 4 _ rfl;have x5:=cell_at hbx 5 _ rfl;clear hbx HK IH
   by_cases hl:ks.length=0
   ·have hlb:((ks.length:Int) == 0)=true:=by rw [hl];rfl
    by_cases hu:v.toList=[95]
    ·obtain rfl:b=false:=by rw [← hb];simp [Tm.solid,hu]
     have hub:(v.toList == [95])=true:=by rw [hu];rfl
     have hub2:(v.toList != [95])=false:=by simp [bne,hub]
     rw [hl] at *;go_enter Tryz.func350,Tryz.ntmps350;go_wp2;go_ret;exact ⟨rfl,Fut.alloc _ _⟩
    ·have hub:(v.toList == [95])=false:=by rw [beq_eq_false_iff_ne];exact hu
     have hub2:(v.toList != [95])=true:=by simp [bne,hub]
     have hbg:Tm.good ⟨v,⟨k,n,s⟩⟩=b:=by rw [← hb];simp [Tm.solid,hu,hl]
     rw [hbg] at HT;rw [hl] at *;clear hb hbg;go_enter Tryz.func350,Tryz.ntmps350;go_wp2_with fail;refine (HT.out _).mono ?_;rintro e w1 ⟨rfl,f1⟩;have F1:=(Fut.alloc _ _).trans f1;clear f1 x1 x2 x3 x4 x5;go_wp2;go_ret;exact ⟨rfl,F1⟩
   ·have hlb:((ks.length:Int) == 0)=false:=by rw [beq_eq_false_iff_ne];omega
    have hlb2:(ks.length == 0)=false:=by rw [beq_eq_false_iff_ne];exact hl
    obtain rfl:b=false:=by rw [← hb];simp [hl]
    clear hb;generalize ks.length=l at *;go_enter Tryz.func350,Tryz.ntmps350;go_wp2;go_ret;exact ⟨rfl,Fut.alloc _ _⟩
  ·have h0b:(op == 0)=false:=by rw [beq_eq_false_iff_ne];exact h0
   rw [if_neg h0] at hb;have hs1:(w.alloc (.cells #[.int .i8 op,.string v,.int .i8 k,.int .i64 n,.string s,.slice A ks.length c] 118)).heap.size=w.heap.size+1:=by simp
   have f1:=Fut.alloc (w.alloc (.cells #[.int .i8 op,.string v,.int .i8 k,.int .i64 n,.string s,.slice A ks.length c] 118)) (.cells #[.string ⟨#[]⟩,.int .i8 0,.int .i64 0,.string ⟨#[]⟩] 115);have hbz:=heap_alloc_new (w.alloc (.cells #[.int .i8 op,.string v,.int .i8 k,.int .i64 n,.string s,.slice A ks.length c] 118)) (.cells #[.string ⟨#[]⟩,.int .i8 0,.int .i64 0,.string ⟨#[]⟩] 115);rw [hs1] at hbz;have hb1:=f1.block hbx;have F01:=Hh (f0.trans f1);have x0:=cell_at hb1 0 _ rfl;have x1:=cell_at hb1 1 _ rfl;have x2:=cell_at hb1 2 _ rfl;have x3:=cell_at hb1 3 _ rfl;have x4:=cell_at hb1 4 _ rfl;have x5:=cell_at hb1 5 _ rfl;have z0:=cell_at hbz 0 _ rfl;have z1:=cell_at hbz 1 _ rfl;have z2:=cell_at hbz 2 _ rfl;have z3:=cell_at hbz 3 _ rfl;clear hbx f0 f1 hb1 hbz hs1 HT
   by_cases hz:v.toList=[]∧k=0∧n=0∧s.toList=[]
   ·obtain ⟨c1,rfl,rfl,c4⟩:=hz;obtain rfl:=empty_of c1;obtain rfl:=empty_of c4;have hb2:(decide ((ks.length:Int)=arityE op) && ks.all (deepE d))=b:=by rw [← hb];simp [Tm.zero,c1]
    have HKd:=Hh (fun W => rkids_any op W);have HX5:=Hh x5;have hdw2:wrap64 (D - 1)=(d:Int):=by rw [hD1];unfold wrap64;omega
    have hdw3:wrap64 (d:Int)=(d:Int):=by unfold wrap64;omega
    obtain ⟨ar,har⟩:∃ ar,arityE op=ar:=⟨_,rfl⟩
    rw [har] at hb2 HKd;clear hb har c1 c4
    by_cases hl:(ks.length:Int)=ar
    ·subst hl;have hall:ks.all (deepE d)=b:=by rw [← hb2];simp
     have hall':=Hh hall;clear hb2 hall;go_enter Tryz.func350,Tryz.ntmps350;go_wp2;refine wp_graph 13 [.d,.d,.d,.d,.d,.d,.d,.d,.d,.d,.d,.d,.d] (by kernel_rfl) (by kernel_rfl) (by kernel_rfl) ?_;simp only [takS,Exs]
     iterate 13 apply Exists.intro
     apply Run.valG (wanted_none rfl _)
     ·intro w1 h1 hk;go_simp;rfl
     simp only [actS]
     iterate 2
      apply Run.valG (wanted_none rfl _)
      ·intro w1 h1 hk;have r0:=h1.cell x0;have r1:=h1.cell x1;have r2:=h1.cell x2;have r3:=h1.cell x3;have r4:=h1.cell x4;have r5:=h1.cell x5;have p0:=h1.cell z0;have p1:=h1.cell z1;have p2:=h1.cell z2;have p3:=h1.cell z3;have hcw:=fun b o => Below.cell (p:=⟨b,o,none⟩) h1;go_simp;rfl
      simp only [actS]
     iterate 2
      apply Run.valG (wanted_none rfl _)
      ·intro w1 h1 hk;go_simp;rfl
      simp only [actS]
     apply Run.valG (by go_simp)
     ·intro w1 h1 hk;go_simp;rfl
     simp only [actS]
     iterate 2
      apply Run.valG (by go_simp)
      ·intro w1 h1 hk;have r0:=h1.cell x0;have r1:=h1.cell x1;have r2:=h1.cell x2;have r3:=h1.cell x3;have r4:=h1.cell x4;have r5:=h1.cell x5;have p0:=h1.cell z0;have p1:=h1.cell z1;have p2:=h1.cell z2;have p3:=h1.cell z3;have hcw:=fun b o => Below.cell (p:=⟨b,o,none⟩) h1;go_simp;rfl
      simp only [actS]
     apply Run.valG (by go_simp)
     ·intro w1 h1 hk;go_simp;rfl
     simp only [actS];apply Run.valG (by go_simp)
     ·intro w1 h1 hk;have r0:=h1.cell x0;have r1:=h1.cell x1;have r2:=h1.cell x2;have r3:=h1.cell x3;have r4:=h1.cell x4;have r5:=h1.cell x5;have p0:=h1.cell z0;have p1:=h1.cell z1;have p2:=h1.cell z2;have p3:=h1.cell z3;have hcw:=fun b o => Below.cell (p:=⟨b,o,none⟩) h1;go_simp;rfl
     simp only [actS];apply Run.call (by go_simp) (fun _ _ => by go_simp;exact ⟨rfl,rfl⟩)
     ·intro w1 h1 hk;have r0:=h1.cell x0;have r1:=h1.cell x1;have r2:=h1.cell x2;have r3:=h1.cell x3;have r4:=h1.cell x4;have r5:=h1.cell x5;have p0:=h1.cell z0;have p1:=h1.cell z1;have p2:=h1.cell z2;have p3:=h1.cell z3;exact HKd.out _
     simp only [actS];apply Run.valG (by go_simp)
     ·intro w1 h1 hk;go_simp;rfl
     simp only [actS];apply Run.valG (wanted_none rfl _)
     ·intro w1 h1 hk;go_simp;rfl
     simp only [actS];apply Run.done;intro w2 h2 hk;clear hk;have F2:=Hh (F01.out.trans ((Fut.drew _).trans h2));have y5:=Hh (h2.cell x5);clear h2 x0 x1 x2 x3 x4 x5 z0 z1 z2 z3 HX5 F01;go_wp2;go_loopw [6] (fun i wr => ∃ q:Nat,q≤ks.length∧i = .int .i64 q∧Hid (∀ x ∈ ks.take q,deepE d x=true)∧Hid (Fut w2 wr)) (fun i _ => ks.length - (intOf i).toNat)
     case atStart => exact ⟨0,Nat.zero_le _,rfl,Hh (fun x hx => by simp at hx),Hh (Fut.refl _)⟩
     case round =>
      obtain ⟨q,hq,rfl,hI,hF⟩:=hrel;have g5:=hF.out.cell y5.out
      by_cases hlt:q<ks.length
      ·have hltI:(q:Int)<ks.length:=by omega
       have e0:(0:Int)≤q∧(q:Int)<ks.length:=by omega
       obtain ⟨b',off,cs,rfl,hr,hl6,hcs⟩:=sl_rowR (HK.out.fut (RE.stays m') (F2.out.trans hF.out)) hlt;have htk:=Hh (List.take_succ_eq_append_getElem hlt);have hmem:=Hh (List.getElem_mem hlt);generalize ks[q]=z at *;have HC:=Hh (IH.out z cs m' wr hr);have hcs9:=Hh hcs;have hi6:(Tryz.prog.info? 118).map (·.size)=some cs.length:=by rw [hl6];exact infoEx6'
       clear hcs hr;go_wp2_with (first|(show wpList _ _ _ (Oper.mk _ (Op.load 118 _) _ _ _ _ :: _) _ _;refine Go.wpList_load_mid rfl _ _ rfl b' (off+q * 6) rfl cs _ hcs9.out Tryz.underlying118 rfl hi6 ?_));refine HC.out.mono ?_;rintro e w3 ⟨rfl,f3⟩;have F3:=Hh (hF.out.trans f3);clear f3 HC;cases hg:deepE d z
       ·have hbf:b=false:=by
          rw [← hall'.out,List.all_eq_false];exact ⟨z,hmem.out,by rw [hg];decide⟩
        subst hbf;go_wp2;go_ret;exact ⟨rfl,F2.out.trans F3.out⟩
       ·have HI:=Hh (show ∀ x ∈ ks.take (q+1),deepE d x=true from fun x hx => by
          rw [htk.out,List.mem_append] at hx;rcases hx with hx|hx
          ·exact hI.out x hx
          ·rw [List.mem_singleton] at hx;rw [hx];exact hg)
        go_wp2;go_roundw
        case rel => exact ⟨q+1,by omega,by go_num,HI,F3⟩
        case measure => simp [intOf] <;> omega
      ·obtain rfl:q=ks.length:=by omega
       have hbt:b=true:=by
        rw [← hall'.out,List.all_eq_true];intro x hx;exact hI.out x (by rw [List.take_length];exact hx)
       subst hbt;go_wp2;go_ret;exact ⟨rfl,F2.out.trans hF.out⟩
    ·obtain rfl:b=false:=by rw [← hb2,decide_eq_false hl];rfl
     have hlb:((ks.length:Int) == ar)=false:=by rw [beq_eq_false_iff_ne];exact hl
     have hlb2:((ks.length:Int) != ar)=true:=by simp [bne,hlb]
     clear hb2 HK IH;generalize ks.length=l at *;go_enter Tryz.func350,Tryz.ntmps350;go_wp2;refine wp_graph 13 [.d,.d,.d,.d,.d,.d,.d,.d,.d,.d,.d,.d,.d] (by kernel_rfl) (by kernel_rfl) (by kernel_rfl) ?_;simp only [takS,Exs]
     iterate 13 apply Exists.intro
     apply Run.valG (wanted_none rfl _)
     ·intro w1 h1 hk;go_simp;rfl
     simp only [actS]
     iterate 2
      apply Run.valG (wanted_none rfl _)
      ·intro w1 h1 hk;have r0:=h1.cell x0;have r1:=h1.cell x1;have r2:=h1.cell x2;have r3:=h1.cell x3;have r4:=h1.cell x4;have r5:=h1.cell x5;have p0:=h1.cell z0;have p1:=h1.cell z1;have p2:=h1.cell z2;have p3:=h1.cell z3;have hcw:=fun b o => Below.cell (p:=⟨b,o,none⟩) h1;go_simp;rfl
      simp only [actS]
     iterate 2
      apply Run.valG (wanted_none rfl _)
      ·intro w1 h1 hk;go_simp;rfl
      simp only [actS]
     apply Run.valG (by go_simp)
     ·intro w1 h1 hk;go_simp;rfl
     simp only [actS]
     iterate 2
      apply Run.valG (by go_simp)
      ·intro w1 h1 hk;have r0:=h1.cell x0;have r1:=h1.cell x1;have r2:=h1.cell x2;have r3:=h1.cell x3;have r4:=h1.cell x4;have r5:=h1.cell x5;have p0:=h1.cell z0;have p1:=h1.cell z1;have p2:=h1.cell z2;have p3:=h1.cell z3;have hcw:=fun b o => Below.cell (p:=⟨b,o,none⟩) h1;go_simp;rfl
      simp only [actS]
     apply Run.valG (by go_simp)
     ·intro w1 h1 hk;go_simp;rfl
     simp only [actS];apply Run.valG (by go_simp)
     ·intro w1 h1 hk;have r0:=h1.cell x0;have r1:=h1.cell x1;have r2:=h1.cell x2;have r3:=h1.cell x3;have r4:=h1.cell x4;have r5:=h1.cell x5;have p0:=h1.cell z0;have p1:=h1.cell z1;have p2:=h1.cell z2;have p3:=h1.cell z3;have hcw:=fun b o => Below.cell (p:=⟨b,o,none⟩) h1;go_simp;rfl
     simp only [actS];apply Run.call (by go_simp) (fun _ _ => by go_simp;exact ⟨rfl,rfl⟩)
     ·intro w1 h1 hk;have r0:=h1.cell x0;have r1:=h1.cell x1;have r2:=h1.cell x2;have r3:=h1.cell x3;have r4:=h1.cell x4;have r5:=h1.cell x5;have p0:=h1.cell z0;have p1:=h1.cell z1;have p2:=h1.cell z2;have p3:=h1.cell z3;exact HKd.out _
     simp only [actS];apply Run.valG (by go_simp)
     ·intro w1 h1 hk;go_simp;rfl
     simp only [actS];apply Run.valG (wanted_none rfl _)
     ·intro w1 h1 hk;go_simp;rfl
     simp only [actS];apply Run.done;intro w2 h2 hk;clear hk;have F9:=F01.out.trans ((Fut.drew _).trans h2);clear h2;go_wp2;go_ret;exact ⟨rfl,F9⟩
   ·obtain rfl:b=false:=by
      rw [← hb,Bool.eq_false_iff];intro h;simp [Tm.zero] at h;exact hz ⟨h.1.1.1.1.1,h.1.1.1.1.2,h.1.1.1.2,h.1.1.2⟩
    clear hb HK IH;generalize ks.length=l at *
    by_cases c1:v.toList=[]
    ·by_cases c2:k=0
     ·by_cases c3:n=0
      ·have c4:¬ s.toList=[]:=fun c4 => hz ⟨c1,c2,c3,c4⟩;obtain rfl:=empty_of c1;subst c2;subst c3;have q1:(s.toList == [])=false:=by rw [beq_eq_false_iff_ne];exact c4
       clear hz;go_enter Tryz.func350,Tryz.ntmps350;go_wp2;refine wp_graph 13 [.d,.d,.d,.d,.d,.d,.d,.d,.d,.d,.d,.d,.d] (by kernel_rfl) (by kernel_rfl) (by kernel_rfl) ?_;simp only [takS,Exs]
       iterate 13 apply Exists.intro
       apply Run.valG (wanted_none rfl _)
       ·intro w1 h1 hk;go_simp;rfl
       simp only [actS]
       iterate 2
        apply Run.valG (wanted_none rfl _)
        ·intro w1 h1 hk;have r0:=h1.cell x0;have r1:=h1.cell x1;have r2:=h1.cell x2;have r3:=h1.cell x3;have r4:=h1.cell x4;have p0:=h1.cell z0;have p1:=h1.cell z1;have p2:=h1.cell z2;have p3:=h1.cell z3;have hcw:=fun b o => Below.cell (p:=⟨b,o,none⟩) h1;go_simp;rfl
        simp only [actS]
       iterate 2
        apply Run.valG (wanted_none rfl _)
        ·intro w1 h1 hk;go_simp;rfl
        simp only [actS]
       iterate 7
        apply Run.skip (by first|(go_simp;done)|(go_simp;exact fun h => nomatch h));simp only [actS]
       apply Run.valG (wanted_none rfl _)
       ·intro w1 h1 hk;go_simp;rfl
       simp only [actS];apply Run.done;intro w2 h2 hk;clear hk;have F9:=F01.out.trans ((Fut.drew _).trans h2);clear h2;go_wp2;go_ret;exact ⟨rfl,F9⟩
      ·obtain rfl:=empty_of c1;subst c2;have q1:(n == 0)=false:=by rw [beq_eq_false_iff_ne];exact c3
       clear hz;go_enter Tryz.func350,Tryz.ntmps350;go_wp2;refine wp_graph 13 [.d,.d,.d,.d,.d,.d,.d,.d,.d,.d,.d,.d,.d] (by kernel_rfl) (by kernel_rfl) (by kernel_rfl) ?_;simp only [takS,Exs]
       iterate 13 apply Exists.intro
       apply Run.valG (wanted_none rfl _)
       ·intro w1 h1 hk;go_simp;rfl
       simp only [actS]
       iterate 2
        apply Run.valG (wanted_none rfl _)
        ·intro w1 h1 hk;have r0:=h1.cell x0;have r1:=h1.cell x1;have r2:=h1.cell x2;have r3:=h1.cell x3;have r4:=h1.cell x4;have p0:=h1.cell z0;have p1:=h1.cell z1;have p2:=h1.cell z2;have p3:=h1.cell z3;have hcw:=fun b o => Below.cell (p:=⟨b,o,none⟩) h1;go_simp;rfl
        simp only [actS]
       iterate 2
        apply Run.valG (wanted_none rfl _)
        ·intro w1 h1 hk;go_simp;rfl
        simp only [actS]
       iterate 7
        apply Run.skip (by first|(go_simp;done)|(go_simp;exact fun h => nomatch h));simp only [actS]
       apply Run.valG (wanted_none rfl _)
       ·intro w1 h1 hk;go_simp;rfl
       simp only [actS];apply Run.done;intro w2 h2 hk;clear hk;have F9:=F01.out.trans ((Fut.drew _).trans h2);clear h2;go_wp2;go_ret;exact ⟨rfl,F9⟩
     ·obtain rfl:=empty_of c1;have q1:(k == 0)=false:=by rw [beq_eq_false_iff_ne];exact c2
      clear hz;go_enter Tryz.func350,Tryz.ntmps350;go_wp2;refine wp_graph 13 [.d,.d,.d,.d,.d,.d,.d,.d,.d,.d,.d,.d,.d] (by kernel_rfl) (by kernel_rfl) (by kernel_rfl) ?_;simp only [takS,Exs]
      iterate 13 apply Exists.intro
      apply Run.valG (wanted_none rfl _)
      ·intro w1 h1 hk;go_simp;rfl
      simp only [actS]
      iterate 2
       apply Run.valG (wanted_none rfl _)
       ·intro w1 h1 hk;have r0:=h1.cell x0;have r1:=h1.cell x1;have r2:=h1.cell x2;have r3:=h1.cell x3;have r4:=h1.cell x4;have p0:=h1.cell z0;have p1:=h1.cell z1;have p2:=h1.cell z2;have p3:=h1.cell z3;have hcw:=fun b o => Below.cell (p:=⟨b,o,none⟩) h1;go_simp;rfl
       simp only [actS]
      iterate 2
       apply Run.valG (wanted_none rfl _)
       ·intro w1 h1 hk;go_simp;rfl
       simp only [actS]
      iterate 7
       apply Run.skip (by first|(go_simp;done)|(go_simp;exact fun h => nomatch h));simp only [actS]
      apply Run.valG (wanted_none rfl _)
      ·intro w1 h1 hk;go_simp;rfl
      simp only [actS];apply Run.done;intro w2 h2 hk;clear hk;have F9:=F01.out.trans ((Fut.drew _).trans h2);clear h2;go_wp2;go_ret;exact ⟨rfl,F9⟩
    ·have q1:(v.toList == [])=false:=by rw [beq_eq_false_iff_ne];exact c1
     clear hz;go_enter Tryz.func350,Tryz.ntmps350;go_wp2;refine wp_graph 13 [.d,.d,.d,.d,.d,.d,.d,.d,.d,.d,.d,.d,.d] (by kernel_rfl) (by kernel_rfl) (by kernel_rfl) ?_;simp only [takS,Exs]
     iterate 13 apply Exists.intro
     apply Run.valG (wanted_none rfl _)
     ·intro w1 h1 hk;go_simp;rfl
     simp only [actS]
     iterate 2
      apply Run.valG (wanted_none rfl _)
      ·intro w1 h1 hk;have r0:=h1.cell x0;have r1:=h1.cell x1;have r2:=h1.cell x2;have r3:=h1.cell x3;have r4:=h1.cell x4;have p0:=h1.cell z0;have p1:=h1.cell z1;have p2:=h1.cell z2;have p3:=h1.cell z3;have hcw:=fun b o => Below.cell (p:=⟨b,o,none⟩) h1;go_simp;rfl
      simp only [actS]
     iterate 2
      apply Run.valG (wanted_none rfl _)
      ·intro w1 h1 hk;go_simp;rfl
      simp only [actS]
     iterate 7
      apply Run.skip (by first|(go_simp;done)|(go_simp;exact fun h => nomatch h));simp only [actS]
     apply Run.valG (wanted_none rfl _)
     ·intro w1 h1 hk;go_simp;rfl
     simp only [actS];apply Run.done;intro w2 h2 hk;clear hk;have F9:=F01.out.trans ((Fut.drew _).trans h2);clear h2;go_wp2;go_ret;exact ⟨rfl,F9⟩
set_option maxHeartbeats 2000000 in
set_option maxRecDepth 100000 in
theorem rargument_any (a:Ar) (w:World) (ht:a.t.ok):Calls Tryz.prog 324 #[.agg #[.int .i8 a.g,.string a.t.v,.int .i8 a.t.x.k,.int .i64 a.t.x.n,.string a.t.x.s]] w fun e w' => e = .returned (.bool a.good)∧Fut w w':=by
 have HT:=Hh (fun W => rterm_any a.t W ht);obtain ⟨b,hb⟩:∃ b,a.good=b:=⟨_,rfl⟩
 rw [hb];obtain ⟨g,⟨v,⟨k,n,s⟩⟩⟩:=a;replace hb:(if g=0 then Tm.solid ⟨v,⟨k,n,s⟩⟩ else if g=1 then Tm.zero ⟨v,⟨k,n,s⟩⟩ else if g=2∨g=3∨g=4 then !decide (v.toList=[]) && Tm.solid ⟨v,⟨k,n,s⟩⟩ else false)=b:=hb;dsimp only at *;clear ht;have F01:=Hh ((Fut.alloc w (.cells #[.int .i8 g,.string v,.int .i8 k,.int .i64 n,.string s] 190)).trans (Fut.alloc _ (.cells #[.string ⟨#[]⟩,.int .i8 0,.int .i64 0,.string ⟨#[]⟩] 115)))
 by_cases h0:g=0
 ·subst h0;rw [if_pos rfl] at hb
  by_cases hu:v.toList=[95]
  ·obtain rfl:b=false:=by rw [← hb];simp [Tm.solid,hu]
   have hub:(v.toList == [95])=true:=by rw [hu];rfl
   have hub2:(v.toList != [95])=false:=by simp [bne,hub]
   go_enter Tryz.func324,Tryz.ntmps324;go_wp2;go_ret;exact ⟨rfl,F01.out⟩
  ·have hub:(v.toList == [95])=false:=by rw [beq_eq_false_iff_ne];exact hu
   have hub2:(v.toList != [95])=true:=by simp [bne,hub]
   have hbg:Tm.good ⟨v,⟨k,n,s⟩⟩=b:=by rw [← hb];simp [Tm.solid,hu]
   rw [hbg] at HT;clear hb hbg;go_enter Tryz.func324,Tryz.ntmps324;go_wp2_with fail;refine (HT.out _).mono ?_;rintro e w1 ⟨rfl,f1⟩;have F1:=F01.out.trans f1;clear f1;go_wp2;go_ret;exact ⟨rfl,F1⟩
 ·have h0b:(g == 0)=false:=by rw [beq_eq_false_iff_ne];exact h0
  rw [if_neg h0] at hb
  by_cases h1:g=1
  ·subst h1;rw [if_pos rfl] at hb
   by_cases hz:v.toList=[]∧k=0∧n=0∧s.toList=[]
   ·obtain ⟨hv,rfl,rfl,hs⟩:=hz;obtain rfl:b=true:=by rw [← hb];simp [Tm.zero,hv,hs]
    go_enter Tryz.func324,Tryz.ntmps324;go_wp2;go_ret;exact ⟨by simp [hv,hs],F01.out⟩
   ·obtain rfl:b=false:=by
      rw [← hb,Bool.eq_false_iff];intro h;simp [Tm.zero] at h;exact hz ⟨h.1.1.1,h.1.1.2,h.1.2,h.2⟩
    clear hb;go_enter Tryz.func324,Tryz.ntmps324;go_wp2
    all_goals first
     | (exfalso;apply hz;refine ⟨?_,?_,?_,?_⟩ <;> first|rfl|assumption)
     | (go_ret;exact ⟨rfl,(Fut.alloc _ _).trans (Fut.alloc _ _)⟩)
  ·have h1b:(g == 1)=false:=by rw [beq_eq_false_iff_ne];exact h1
   rw [if_neg h1] at hb
   by_cases h2:g=2∨g=3∨g=4
   ·rw [if_pos h2] at hb;rcases h2 with rfl|rfl|rfl
    all_goals by_cases hv:v.toList=[]
    all_goals first
     | (obtain rfl:b=false:=(by rw [← hb];simp [hv])
        have hvb:(v.toList == [])=true:=(by rw [hv];rfl)
        have hvb2:(v.toList != [])=false:=(by simp [bne,hvb])
        go_enter Tryz.func324,Tryz.ntmps324;go_wp2;go_ret;exact ⟨rfl,F01.out⟩)
     | (have hvb:(v.toList == [])=false:=(by rw [beq_eq_false_iff_ne];exact hv)
        have hvb2:(v.toList != [])=true:=(by simp [bne,hvb])
        by_cases hu:v.toList=[95]
        ·obtain rfl:b=false:=(by rw [← hb];simp [Tm.solid,hu])
         have hub:(v.toList == [95])=true:=(by rw [hu];rfl)
         have hub2:(v.toList != [95])=false:=(by simp [bne,hub])
         go_enter Tryz.func324,Tryz.ntmps324;go_wp2;go_ret;exact ⟨rfl,F01.out⟩
        ·have hub:(v.toList == [95])=false:=(by rw [beq_eq_false_iff_ne];exact hu)
         have hub2:(v.toList != [95])=true:=(by simp [bne,hub])
         have hbg:Tm.good ⟨v,⟨k,n,s⟩⟩=b:=(by rw [← hb];simp [Tm.solid,hu,hv])
         rw [hbg] at HT;clear hb hbg;go_enter Tryz.func324,Tryz.ntmps324;go_wp2_with fail;refine (HT.out _).mono ?_;rintro e w1 ⟨rfl,f1⟩;have F1:=F01.out.trans f1;clear f1;go_wp2;go_ret;exact ⟨rfl,F1⟩)
   ·rw [if_neg h2] at hb;subst hb;have q2:(g == 2)=false:=by rw [beq_eq_false_iff_ne];omega
    have q3:(g == 3)=false:=by rw [beq_eq_false_iff_ne];omega
    have q4:(g == 4)=false:=by rw [beq_eq_false_iff_ne];omega
    go_enter Tryz.func324,Tryz.ntmps324;go_wp2;go_ret;exact ⟨rfl,F01.out⟩
set_option maxHeartbeats 4000000 in
set_option maxRecDepth 100000 in
theorem rliteral_any (x:Lt) (cs:List Value) (w:World) (h:RLt w cs x):Calls Tryz.prog 325 #[.agg cs.toArray] w fun e w' => e = .returned (.bool x.good)∧Fut w w':=by
 obtain ⟨b,hb⟩:∃ b,x.good=b:=⟨_,rfl⟩
 rw [hb];obtain ⟨k,p,a,r,l,d⟩:=x;obtain ⟨av,cl,cd,rfl,_,_,_,_,hp,ha,⟨n1,h1⟩,⟨n2,h2⟩⟩:=h;dsimp only at *;obtain ⟨A,c,rfl,_,hcm⟩:=ha.form;have H1:=h1;have H2:=h2;obtain ⟨m1,op1,⟨tv1,⟨xk1,xn1,xs1⟩⟩,ks1,A1,c1,rfl,rfl,rfl,_,_,_⟩:=ex_form h1;obtain ⟨m2,op2,⟨tv2,⟨xk2,xn2,xs2⟩⟩,ks2,A2,c2,rfl,rfl,rfl,_,_,_⟩:=ex_form h2;dsimp only at *;unfold Lt.good at hb;dsimp only at hb;show Calls Tryz.prog 325 #[.agg #[.int .i8 k,.string p,.slice A a.length c,.int .i8 r,.int .i8 op1,.string tv1,.int .i8 xk1,.int .i64 xn1,.string xs1,.slice A1 ks1.length c1,.int .i8 op2,.string tv2,.int .i8 xk2,.int .i64 xn2,.string xs2,.slice A2 ks2.length c2]] w _;have hbx:=heap_alloc_new w (.cells #[.int .i8 k,.string p,.slice A a.length c,.int .i8 r,.int .i8 op1,.string tv1,.int .i8 xk1,.int .i64 xn1,.string xs1,.slice A1 ks1.length c1,.int .i8 op2,.string tv2,.int .i8 xk2,.int .i64 xn2,.string xs2,.slice A2 ks2.length c2] 120);have F0:=Hh (Fut.alloc w (.cells #[.int .i8 k,.string p,.slice A a.length c,.int .i8 r,.int .i8 op1,.string tv1,.int .i8 xk1,.int .i64 xn1,.string xs1,.slice A1 ks1.length c1,.int .i8 op2,.string tv2,.int .i8 xk2,.int .i64 xn2,.string xs2,.slice A2 ks2.length c2] 120));have HB:=Hh hbx;have x0:=cell_at hbx 0 _ rfl;have x1:=cell_at hbx 1 _ rfl;have x2:=cell_at hbx 2 _ rfl;have x3:=cell_at hbx 3 _ rfl;have lA:World.rangeAt _ w.heap.size 1 [.string p,.slice A a.length c]:=range_mid (cs:=[.int .i8 k,.string p,.slice A a.length c,.int .i8 r,.int .i8 op1,.string tv1,.int .i8 xk1,.int .i64 xn1,.string xs1,.slice A1 ks1.length c1,.int .i8 op2,.string tv2,.int .i8 xk2,.int .i64 xn2,.string xs2,.slice A2 ks2.length c2]) hbx 1 2;have lB:World.rangeAt _ w.heap.size 4 [.int .i8 op1,.string tv1,.int .i8 xk1,.int .i64 xn1,.string xs1,.slice A1 ks1.length c1]:=range_mid (cs:=[.int .i8 k,.string p,.slice A a.length c,.int .i8 r,.int .i8 op1,.string tv1,.int .i8 xk1,.int .i64 xn1,.string xs1,.slice A1 ks1.length c1,.int .i8 op2,.string tv2,.int .i8 xk2,.int .i64 xn2,.string xs2,.slice A2 ks2.length c2]) hbx 4 6;have HA:=Hh (fun W (hW:Fut w W) => ratom_any p A c a W (ha.fut RTm.stays hW) (by omega) hp);have HN1:=Hh (fun W => (show Calls Tryz.prog 349 #[.agg #[.int .i8 op1,.string tv1,.int .i8 xk1,.int .i64 xn1,.string xs1,.slice A1 ks1.length c1]] W _ from rnothing_any (Ex.mk op1 ⟨tv1,⟨xk1,xn1,xs1⟩⟩ ks1) A1 c1 W));have HN2:=Hh (fun W => (show Calls Tryz.prog 349 #[.agg #[.int .i8 op2,.string tv2,.int .i8 xk2,.int .i64 xn2,.string xs2,.slice A2 ks2.length c2]] W _ from rnothing_any (Ex.mk op2 ⟨tv2,⟨xk2,xn2,xs2⟩⟩ ks2) A2 c2 W));have HX1:=Hh (fun W (hW:Fut w W) => (show Calls Tryz.prog 350 #[.agg #[.int .i8 op1,.string tv1,.int .i8 xk1,.int .i64 xn1,.string xs1,.slice A1 ks1.length c1],.int .i64 8] W _ from rexpr_any 8 (by omega) (Ex.mk op1 ⟨tv1,⟨xk1,xn1,xs1⟩⟩ ks1) _ _ W (RE.stays _ _ _ _ _ hW H1)));have HX2:=Hh (fun W (hW:Fut w W) => (show Calls Tryz.prog 350 #[.agg #[.int .i8 op2,.string tv2,.int .i8 xk2,.int .i64 xn2,.string xs2,.slice A2 ks2.length c2],.int .i64 8] W _ from rexpr_any 8 (by omega) (Ex.mk op2 ⟨tv2,⟨xk2,xn2,xs2⟩⟩ ks2) _ _ W (RE.stays _ _ _ _ _ hW H2)));generalize Ex.empty (Ex.mk op1 ⟨tv1,⟨xk1,xn1,xs1⟩⟩ ks1)=q1 at *;generalize Ex.empty (Ex.mk op2 ⟨tv2,⟨xk2,xn2,xs2⟩⟩ ks2)=q2 at *;generalize deepE 8 (Ex.mk op1 ⟨tv1,⟨xk1,xn1,xs1⟩⟩ ks1)=y1 at *;generalize deepE 8 (Ex.mk op2 ⟨tv2,⟨xk2,xn2,xs2⟩⟩ ks2)=y2 at *;have hal:a.length≤9223372036854775807:=by omega
 clear hbx h1 h2 H1 H2
 by_cases hk12:k=1∨k=2
 ·rw [if_pos hk12] at hb;generalize atomG p a=q0 at *;clear ha HX1 HX2
  have step:∀ (K:Int),(K=1∨K=2)→k=K→Calls Tryz.prog 325 #[.agg #[.int .i8 k,.string p,.slice A a.length c,.int .i8 r,.int .i8 op1,.string tv1,.int .i8 xk1,.int .i64 xn1,.string xs1,.slice A1 ks1.length c1,.int .i8 op2,.string tv2,.int .i8 xk2,.int .i64 xn2,.string xs2,.slice A2 ks2.length c2]] w fun e w' => e = .returned (.bool b)∧Fut w w':=by
   intro K hK hkK;subst hkK;rcases hK with rfl|rfl
   all_goals
    go_enter Tryz.func325,Tryz.ntmps325;go_wp2_with (first|(show wpList _ _ _ (Oper.mk _ (Op.load 108 _) _ _ _ _ :: _) _ _;refine wpList_loadG (by go_simp) _ _ rfl w.heap.size 1 rfl [.string p,.slice A a.length c] _ lA Tryz.underlying108 rfl infoAtN ?_));refine (HA.out _ F0.out).mono ?_;rintro e w1 ⟨rfl,f1⟩;have F1:=Hh (F0.out.trans f1);have b1:=Hh (f1.block HB.out);have z3:=f1.cell x3;clear f1 x0 x1 x2 x3 lA HA;cases q0
    ·obtain rfl:b=false:=(by rw [← hb];simp)
     go_wp2;go_ret;exact ⟨rfl,F1.out⟩
    ·by_cases hr:r=0
     ·subst hr;replace lB:World.rangeAt _ w.heap.size 4 [.int .i8 op1,.string tv1,.int .i8 xk1,.int .i64 xn1,.string xs1,.slice A1 ks1.length c1]:=range_mid (cs:=[.int .i8 _,.string p,.slice A a.length c,.int .i8 0,.int .i8 op1,.string tv1,.int .i8 xk1,.int .i64 xn1,.string xs1,.slice A1 ks1.length c1,.int .i8 op2,.string tv2,.int .i8 xk2,.int .i64 xn2,.string xs2,.slice A2 ks2.length c2]) b1.out 4 6;go_wp2_with (first|(show wpList _ _ _ (Oper.mk _ (Op.load 118 _) _ _ _ _ :: _) _ _;refine wpList_loadG (by go_simp) _ _ rfl w.heap.size 4 rfl [.int .i8 op1,.string tv1,.int .i8 xk1,.int .i64 xn1,.string xs1,.slice A1 ks1.length c1] _ lB Tryz.underlying118 rfl infoEx6' ?_));refine (HN1.out _).mono ?_;rintro e w2 ⟨rfl,f2⟩;have F2:=Hh (F1.out.trans f2);have lC:World.rangeAt _ w.heap.size 10 [.int .i8 op2,.string tv2,.int .i8 xk2,.int .i64 xn2,.string xs2,.slice A2 ks2.length c2]:=range_mid (cs:=[.int .i8 _,.string p,.slice A a.length c,.int .i8 0,.int .i8 op1,.string tv1,.int .i8 xk1,.int .i64 xn1,.string xs1,.slice A1 ks1.length c1,.int .i8 op2,.string tv2,.int .i8 xk2,.int .i64 xn2,.string xs2,.slice A2 ks2.length c2]) (f2.block b1.out) 10 6;clear f2 lB z3 HN1;cases q1
      ·obtain rfl:b=false:=(by rw [← hb];simp)
       go_wp2;go_ret;exact ⟨rfl,F2.out⟩
      ·go_wp2_with (first|(show wpList _ _ _ (Oper.mk _ (Op.load 118 _) _ _ _ _ :: _) _ _;refine wpList_loadG (by go_simp) _ _ rfl w.heap.size 10 rfl [.int .i8 op2,.string tv2,.int .i8 xk2,.int .i64 xn2,.string xs2,.slice A2 ks2.length c2] _ lC Tryz.underlying118 rfl infoEx6' ?_));refine (HN2.out _).mono ?_;rintro e w3 ⟨rfl,f3⟩;have F3:=F2.out.trans f3;obtain rfl:b=q2:=(by rw [← hb];simp)
       clear f3 lC HN2 hb;go_wp2;go_ret;exact ⟨rfl,F3⟩
     ·have hrb:(r == 0)=false:=(by rw [beq_eq_false_iff_ne];exact hr)
      obtain rfl:b=false:=(by rw [← hb,decide_eq_false hr];simp)
      go_wp2;go_ret;exact ⟨rfl,F1.out⟩
  rcases hk12 with q|q
  ·exact step 1 (.inl rfl) q
  ·exact step 2 (.inr rfl) q
 ·rw [if_neg hk12] at hb;clear HA HN1 HN2 lA ha hcm;generalize a.length=na at *;have hk1:(k == 1)=false:=(by rw [beq_eq_false_iff_ne];exact fun h => hk12 (.inl h))
  have hk2:(k == 2)=false:=(by rw [beq_eq_false_iff_ne];exact fun h => hk12 (.inr h))
  by_cases hk3:k=3
  ·subst hk3;rw [if_pos rfl] at hb;clear hk12 hk1 hk2
   by_cases hp0:p.toList=[]
   ·have hpb:(p.toList == [])=true:=(by rw [hp0];rfl)
    by_cases hl0:na=0
    ·subst hl0
     by_cases hr1:1≤r
     ·by_cases hr6:r≤6
      ·replace hb:(y1 && y2)=b:=(by rw [← hb,decide_eq_true hp0,decide_eq_true hr1,decide_eq_true hr6];simp)
       go_enter Tryz.func325,Tryz.ntmps325;go_wp2_with (first|(show wpList _ _ _ (Oper.mk _ (Op.load 118 _) _ _ _ _ :: _) _ _;refine wpList_loadG (by go_simp) _ _ rfl w.heap.size 4 rfl [.int .i8 op1,.string tv1,.int .i8 xk1,.int .i64 xn1,.string xs1,.slice A1 ks1.length c1] _ lB Tryz.underlying118 rfl infoEx6' ?_));refine (HX1.out _ F0.out).mono ?_;rintro e w1 ⟨rfl,f1⟩;have F1:=Hh (F0.out.trans f1);have lC:World.rangeAt _ w.heap.size 10 [.int .i8 op2,.string tv2,.int .i8 xk2,.int .i64 xn2,.string xs2,.slice A2 ks2.length c2]:=range_mid (cs:=[.int .i8 3,.string p,.slice A _ c,.int .i8 r,.int .i8 op1,.string tv1,.int .i8 xk1,.int .i64 xn1,.string xs1,.slice A1 ks1.length c1,.int .i8 op2,.string tv2,.int .i8 xk2,.int .i64 xn2,.string xs2,.slice A2 ks2.length c2]) (f1.block HB.out) 10 6;clear f1 x0 x1 x2 x3 lB HX1;cases y1
       ·obtain rfl:b=false:=(by rw [← hb];simp)
        go_wp2;go_ret;exact ⟨rfl,F1.out⟩
       ·obtain rfl:b=y2:=(by rw [← hb];simp)
        clear hb;go_wp2_with (first|(show wpList _ _ _ (Oper.mk _ (Op.load 118 _) _ _ _ _ :: _) _ _;refine wpList_loadG (by go_simp) _ _ rfl w.heap.size 10 rfl [.int .i8 op2,.string tv2,.int .i8 xk2,.int .i64 xn2,.string xs2,.slice A2 ks2.length c2] _ lC Tryz.underlying118 rfl infoEx6' ?_));refine (HX2.out _ F1.out).mono ?_;rintro e w3 ⟨rfl,f3⟩;have F3:=F1.out.trans f3;clear f3 lC HX2;go_wp2;go_ret;exact ⟨rfl,F3⟩
      ·obtain rfl:b=false:=(by rw [← hb,decide_eq_false hr6];simp)
       clear hb lB HX1 HX2;go_enter Tryz.func325,Tryz.ntmps325;go_wp2;go_ret;exact ⟨rfl,F0.out⟩
     ·obtain rfl:b=false:=(by rw [← hb,decide_eq_false hr1];simp)
      clear hb lB HX1 HX2;go_enter Tryz.func325,Tryz.ntmps325;go_wp2;go_ret;exact ⟨rfl,F0.out⟩
    ·have hlb:((na:Int) == 0)=false:=(by rw [beq_eq_false_iff_ne];omega)
     obtain rfl:b=false:=(by rw [← hb,decide_eq_false hl0];simp)
     clear hb lB HX1 HX2;go_enter Tryz.func325,Tryz.ntmps325;go_wp2;go_ret;exact ⟨rfl,F0.out⟩
   ·have hpb:(p.toList == [])=false:=(by rw [beq_eq_false_iff_ne];exact hp0)
    obtain rfl:b=false:=(by rw [← hb,decide_eq_false hp0];simp)
    clear hb lB HX1 HX2;go_enter Tryz.func325,Tryz.ntmps325;go_wp2;go_ret;exact ⟨rfl,F0.out⟩
  ·have hkb:(k == 3)=false:=(by rw [beq_eq_false_iff_ne];exact hk3)
   rw [if_neg hk3] at hb;obtain rfl:b=false:=hb.symm;clear hb lB HX1 HX2;go_enter Tryz.func325,Tryz.ntmps325;go_wp2;go_ret;exact ⟨rfl,F0.out⟩
set_option maxHeartbeats 1600000 in
set_option maxRecDepth 100000 in
theorem rin_any {M:Nat} (s:ByteArray) (A:Option Addr) (c:Nat) (L:List ByteArray) (w:World) (h:SlRep 1 M RNm w (.slice A L.length c) L) (hM:M≤9223372036854775807) :
    Calls Tryz.prog 262 #[.string s,.slice A L.length c] w fun e w' => e = .returned (.bool (decide (s ∈ L)))∧w'=w:=by
 have H:=Hh h;obtain ⟨_,_,hv,hl1,hl2⟩:=h.form;have hxl:L.length≤9223372036854775807:=by omega
 obtain ⟨b,hb⟩:∃ b,decide (s ∈ L)=b:=⟨_,rfl⟩
 rw [hb];replace hb:=Hh hb;clear h hv hl1 hl2;go_enter Tryz.func262,Tryz.ntmps262;go_wp2_with fail;go_loopw [5] (fun i wr => ∃ k:Nat,k≤L.length∧i = .int .i64 k∧Hid (wr=w)∧Hid (∀ x ∈ L.take k,x≠s)) (fun i _ => L.length - (intOf i).toNat)
 case atStart => exact ⟨0,Nat.zero_le _,rfl,Hh rfl,Hh (fun x hx => by simp at hx)⟩
 case round =>
  obtain ⟨k,hk,rfl,hW,hI⟩:=hrel;obtain rfl:=hW.out
  by_cases hlt:k<L.length
  ·have hltI:(k:Int)<L.length:=by omega
   have e0:(0:Int)≤k∧(k:Int)<L.length:=by omega
   obtain ⟨b',off,rfl,u0⟩:=nm_at H.out hlt;have hnx:=Hh (List.take_succ_eq_append_getElem hlt);have hmem:=Hh (List.getElem_mem hlt);generalize L[k]=z at *
   by_cases hz:z=s
   ·obtain rfl:b=true:=(by rw [← hb.out];exact decide_eq_true (hz ▸ hmem.out))
    subst hz;go_wp2;go_ret;exact ⟨rfl,rfl⟩
   ·have hI2:Hid (∀ x ∈ L.take (k+1),x≠s):=Hh fun x hx => by
      rw [hnx.out,List.mem_append] at hx;rcases hx with hx|hx
      ·exact hI.out x hx
      ·rw [List.mem_singleton] at hx;subst hx;exact hz
    have hzb:(z.toList == s.toList)=false:=(by
     rw [beq_eq_false_iff_ne];intro h;rw [ByteArray.toList_eq,ByteArray.toList_eq] at h;exact hz (ByteArray.ext (Array.toList_inj.1 (by simpa using h))))
    go_wp2;go_roundw
    case rel => exact ⟨k+1,by omega,by go_num,(by first|exact Hh trivial|exact Hh rfl),hI2⟩
    case measure => simp [intOf] <;> omega
  ·obtain rfl:k=L.length:=by omega
   rw [List.take_length] at hI;obtain rfl:b=false:=(by rw [← hb.out];exact decide_eq_false (fun h => hI.out s h rfl))
   go_wp2;go_ret;exact ⟨rfl,rfl⟩
set_option maxHeartbeats 2000000 in
set_option maxRecDepth 100000 in
theorem rvars_any {M:Nat} (A:Option Addr) (c:Nat) (ts:List Tm) (w:World) (h:SlRep 4 M RTm w (.slice A ts.length c) ts) (hM:M≤9223372036854775807) (hl:ts.length≤1000000000) :
    Calls Tryz.prog 263 #[.slice A ts.length c] w fun e w' => ∃ v,e = .returned v∧Nms w.heap.size w' v (tmVars ts)∧Fut w w':=by
 unfold tmVars ddVs;have H:=Hh h;clear h;go_enter Tryz.func263,Tryz.ntmps263;go_wp2_with fail;go_loopw [3,4,5] (fun u i _ wr => ∃ k:Nat,k≤ts.length∧i = .int .i64 k∧Hid (Nms w.heap.size wr u (((ts.take k).map (·.v)).foldl addVar []))∧Hid (Fut w wr)) (fun _ i _ _ => ts.length - (intOf i).toNat)
 case atStart => exact ⟨0,Nat.zero_le _,rfl,Hh OwnL.nil,Hh (Fut.refl _)⟩
 case round =>
  obtain ⟨k,hk,rfl,hI,hF⟩:=hrel
  by_cases hlt:k<ts.length
  ·have hltI:(k:Int)<ts.length:=by omega
   have e0:(0:Int)≤k∧(k:Int)<ts.length:=by omega
   obtain ⟨b',off,rfl,hok,u0,u1,u2,u3⟩:=tm_at (H.out.fut RTm.stays hF.out) hlt;have hnx:=Hh (show ((ts.take (k+1)).map (·.v)).foldl addVar []=addVar (((ts.take k).map (·.v)).foldl addVar []) (ts[k]).v by rw [List.take_succ_eq_append_getElem hlt,List.map_append,List.foldl_append];rfl);have hGl:=foldl_len ((ts.take k).map (·.v)) [];obtain ⟨G,hG⟩:∃ G,((ts.take k).map (·.v)).foldl addVar []=G:=⟨_,rfl⟩
   rw [hG] at hnx hI hGl;rw [List.length_map,List.length_take,List.length_nil] at hGl;replace hGl:G.length≤1000000000:=(by omega)
   generalize (ts[k]).v=z at *;clear hG u1 u2 u3 hok;have hsz:=hF.out.size
   by_cases c1:z.toList=[]
   ·have c1b:(z.toList == [])=true:=(by rw [c1];rfl)
    have HI:=Hh (show Nms w.heap.size wr u3 (((ts.take (k+1)).map (·.v)).foldl addVar []) by rw [hnx.out];unfold addVar;rw [if_pos c1];exact hI.out);go_wp2;go_roundw
    case rel => exact ⟨k+1,by omega,by go_num,HI,hF⟩
    case measure => simp [intOf] <;> omega
   ·have c1b:(z.toList == [])=false:=(by rw [beq_eq_false_iff_ne];exact c1)
    by_cases c2:z.toList=[95]
    ·have c2b:(z.toList == [95])=true:=(by rw [c2];rfl)
     have HI:=Hh (show Nms w.heap.size wr u3 (((ts.take (k+1)).map (·.v)).foldl addVar []) by rw [hnx.out];unfold addVar;rw [if_neg c1,if_pos c2];exact hI.out);go_wp2;go_roundw
     case rel => exact ⟨k+1,by omega,by go_num,HI,hF⟩
     case measure => simp [intOf] <;> omega
    ·have c2b:(z.toList == [95])=false:=(by rw [beq_eq_false_iff_ne];exact c2)
     obtain ⟨Au,cu,rfl,_,_⟩:=hI.out.rep.form;have HIn:=Hh (rin_any z Au cu G wr hI.out.rep (by decide));obtain ⟨d,hd⟩:∃ d,decide (z ∈ G)=d:=⟨_,rfl⟩
     rw [hd] at HIn;replace hd:=Hh hd;cases d
     ·have c3:¬ z ∈ G:=of_decide_eq_false hd.out;replace hnx:=Hh (show ((ts.take (k+1)).map (·.v)).foldl addVar []=G++[z] by rw [hnx.out];unfold addVar;rw [if_neg c1,if_neg c2,if_neg c3]);go_wp2_with fail;refine HIn.out.mono ?_;rintro e w3 ⟨rfl,rfl⟩;clear HIn c3;go_wp2_with (first|(at_builtin;refine wpList_append_LB (R:=RNm) (B:=w.heap.size) (M:=1) (xs:=G) (ys:=[z]) (e:=9) (by go_simp) _ _ tVl' rfl Tryz.underlying76 (.string ⟨#[]⟩) 16 infoNm rfl (by decide) RNm.one RNm.keeps rfl rfl (hI.out.fut RNm.stays (Fut.alloc _ _)) (nmOne _ _ _) ?l3 ?m3 ?b3 ?k3))
      case l3 => simp [maxLen];omega
      case m3 => simp;omega
      case b3 => simp;omega
      case k3 =>
      intro v' w' o' g' sn';have HI:=Hh (show Nms w.heap.size w' v' (((ts.take (k+1)).map (·.v)).foldl addVar []) by rw [hnx.out];exact o');have HF:=Hh ((hF.out.trans (Fut.alloc _ _)).grown g' (fun k hk => (hI.out.block k hk).1));clear o' g' sn';go_wp2;go_roundw
      case rel => exact ⟨k+1,by omega,by go_num,HI,HF⟩
      case measure => simp [intOf] <;> omega
     ·have c3:z ∈ G:=of_decide_eq_true hd.out;have HI:=Hh (show Nms w.heap.size wr (.slice Au G.length cu) (((ts.take (k+1)).map (·.v)).foldl addVar []) by rw [hnx.out];unfold addVar;rw [if_neg c1,if_neg c2,if_pos c3];exact hI.out);go_wp2_with fail;refine HIn.out.mono ?_;rintro e w3 ⟨rfl,rfl⟩;go_wp2;go_roundw
      case rel => exact ⟨k+1,by omega,by go_num,HI,hF⟩
      case measure => simp [intOf] <;> omega
  ·obtain rfl:k=ts.length:=by omega
   rw [List.take_length] at hI;go_wp2;go_ret;exact ⟨_,rfl,hI.out,hF.out⟩
mutual
def Ex.tms:Ex→List Tm
 | .mk _ t ks => t :: Ex.tmss ks
def Ex.tmss:List Ex→List Tm
 | [] => []
 | k :: r => k.tms++Ex.tmss r
end
theorem tmss_flat:∀ l:List Ex,Ex.tmss l=l.flatMap Ex.tms
 | [] => rfl
 | k :: r => by rw [Ex.tmss,tmss_flat r,List.flatMap_cons]
mutual
theorem Ex.tms_vs:∀ x:Ex,x.tms.map (·.v)=x.vs
 | .mk _ t ks => by rw [Ex.tms,Ex.vs,List.map_cons,Ex.tmss_vs ks]
theorem Ex.tmss_vs:∀ l:List Ex,(Ex.tmss l).map (·.v)=Ex.vss l
 | [] => rfl
 | k :: r => by rw [Ex.tmss,Ex.vss,List.map_append,Ex.tms_vs k,Ex.tmss_vs r]
end
theorem Ex.tms_len (x:Ex):x.tms.length=x.size:=by rw [← Ex.vs_len,← Ex.tms_vs,List.length_map]
theorem tms_take {l:List Ex} {k:Nat} (hk:k<l.length):(l.take (k+1)).flatMap Ex.tms=(l.take k).flatMap Ex.tms++(l[k]).tms:=by
 rw [List.take_succ_eq_append_getElem hk,List.flatMap_append];simp
theorem tms_le {l:List Ex} {k:Nat} (hk:k<l.length):((l.take k).flatMap Ex.tms).length+(l[k]).tms.length≤(l.flatMap Ex.tms).length:=by
 have h1:(l.flatMap Ex.tms).length=((l.take (k+1)).flatMap Ex.tms).length+((l.drop (k+1)).flatMap Ex.tms).length:=by
  rw [← List.length_append,← List.flatMap_append,List.take_append_drop]
 rw [tms_take hk,List.length_append] at h1;omega
theorem RTm.one:∀ (w:World) cs x,RTm w cs x→∀ u ∈ cs,u.oneCell'=true:=fun w cs x h u hu => by
 obtain ⟨h,_⟩:=h;subst h;unfold Tm.cells at hu;simp at hu;rcases hu with rfl|rfl|rfl|rfl <;> rfl
theorem RTm.keeps {e:TypeId}:Keeps e RTm:=fun _ _ _ _ _ h _ _ => h
theorem tmOne (w:World) (t:Tm) (ht:t.ok) (e:TypeId):SlRep 4 1 RTm (w.alloc (.cells #[.string t.v,.int .i8 t.x.k,.int .i64 t.x.n,.string t.x.s] e)) (.slice (some ⟨w.heap.size,0,none⟩) 1 1) [t] :=
 ⟨_,1,rfl,Nat.le_refl _,Nat.le_refl _,fun i y hy => by
  have hi:i=0:=by
   have:=(List.getElem?_eq_some_iff.1 hy).1;simp at this;omega
  subst hi;obtain rfl:t=y:=by simpa using hy
  refine ⟨w.heap.size,0,t.cells,rfl,rfl,fun j c hc => ?_,rfl,ht⟩;have hb:=heap_alloc_new w (.cells #[.string t.v,.int .i8 t.x.k,.int .i64 t.x.n,.string t.x.s] e);have:=cell_at hb j c (by simpa [Tm.cells] using hc);simpa using this⟩
def TmsAt (w0 W W':World) (lv v:Value) (L:List Tm):Prop :=
 OwnL 4 w0.heap.size 115 RTm W' v L∧Only (fun k => lv.ownBlock=some k∨W.heap.size≤k) W W'∧∀ k,v.ownBlock=some k→lv.ownBlock=some k∨W.heap.size≤k
theorem TmsAt.trans {w0 W W1 W2:World} {lv v1 v2:Value} {L1 L2:List Tm} (h:TmsAt w0 W W1 lv v1 L1) (k:TmsAt w0 W1 W2 v1 v2 L2):TmsAt w0 W W2 lv v2 L2:=by
 have hs:=h.2.1.size;refine ⟨k.1,h.2.1.then k.2.1 fun i hi hl => ?_,fun i hi => ?_⟩
 ·rcases hi with hi|hi
  ·exact h.2.2 i hi
  ·omega
 ·rcases k.2.2 i hi with e|e
  ·exact h.2.2 i e
  ·right;omega
theorem TmsAt.fut {w0 W W':World} {lv v:Value} {L0 L:List Tm} (h:TmsAt w0 W W' lv v L) (hF:Fut w0 W) (hO:OwnL 4 w0.heap.size 115 RTm W lv L0):Fut w0 W':=by
 have hs:=hF.size
 have h1:Only (fun k => w0.heap.size≤k) w0 W':=(Only.fut hF).trans (h.2.1.mono fun k _ hk => by
  rcases hk with hk|hk
  ·exact (hO.block k hk).1
  ·omega)
 exact h1.toFut fun k hk => hk
theorem TmsAt.refl {w0 W:World} {lv:Value} {L:List Tm} (hO:OwnL 4 w0.heap.size 115 RTm W lv L):TmsAt w0 W W lv lv L:=⟨hO,Only.refl _,fun k hk => .inl hk⟩
def RTsOk (m:Nat):Prop:=∀ (x:Ex) (cs:List Value) (w0 W:World) (A:Option Addr) (n c:Nat) (L:List Tm),RE m w0 cs x→Fut w0 W→OwnL 4 w0.heap.size 115 RTm W (.slice A n c) L→L.length+x.tms.length≤1000000000→Calls Tryz.prog 328 #[.slice A n c,.agg cs.toArray] W fun e W' => ∃ v,e = .returned v∧TmsAt w0 W W' (.slice A n c) v (L++x.tms)
set_option maxHeartbeats 4000000 in
set_option maxRecDepth 100000 in
theorem rets_any:∀ m,RTsOk m
 | 0 => fun x cs w0 W A n c L h => by
  obtain ⟨m',_,_,_,_,_,hm,_⟩:=ex_form h;omega
 | m+1 => fun x cs w0 W A n c L h hF hO hl => by
  have IH:=Hh (rets_any m);obtain ⟨m',op,⟨tv,⟨xk,xn,xs⟩⟩,ks,A1,c1,hm,rfl,rfl,hc1,hc2,hks⟩:=ex_form h;obtain ⟨kvx,hkx,_,hok,hkk⟩:=h;clear hkx hkk;obtain rfl:m=m':=by omega
  rw [Ex.tms,tmss_flat] at *;rw [List.length_cons] at hl;dsimp only at *;have hbx:=heap_alloc_new W (.cells #[.int .i8 op,.string tv,.int .i8 xk,.int .i64 xn,.string xs,.slice A1 ks.length c1] 118);have f0:=Fut.alloc W (.cells #[.int .i8 op,.string tv,.int .i8 xk,.int .i64 xn,.string xs,.slice A1 ks.length c1] 118);have HK:=Hh hks;have HF:=Hh hF;have HO:=Hh hO;have HL:=Hh hl;have hxl:ks.length≤9223372036854775807:=by omega
  have x1:=cell_at hbx 1 _ rfl;have x2:=cell_at hbx 2 _ rfl;have x3:=cell_at hbx 3 _ rfl;have x4:=cell_at hbx 4 _ rfl;have f1:=Fut.alloc (W.alloc (.cells #[.int .i8 op,.string tv,.int .i8 xk,.int .i64 xn,.string xs,.slice A1 ks.length c1] 118)) (.cells #[.string tv,.int .i8 xk,.int .i64 xn,.string xs] 115);have hO2:=Hh (hO.fut RTm.stays (f0.trans f1));have hu:=tmOne (W.alloc (.cells #[.int .i8 op,.string tv,.int .i8 xk,.int .i64 xn,.string xs,.slice A1 ks.length c1] 118)) ⟨tv,⟨xk,xn,xs⟩⟩ hok 115;dsimp only at hu;rw [show ∀ o,(W.alloc o).heap.size=W.heap.size+1 from fun o => by simp] at hu;have HB:=Hh hbx;have hsz0:=Hh hF.size;have HF1:=Hh (f0.trans f1);have hHB2:=Hh (f1.block hbx);clear hks hc1 hc2 hF hO hl hbx f0 f1;go_enter Tryz.func328,Tryz.ntmps328;go_wp2_with (first|(at_builtin;refine wpList_append_LB (R:=RTm) (B:=w0.heap.size) (M:=1) (xs:=L) (ys:=[⟨tv,⟨xk,xn,xs⟩⟩]) (e:=115) (by go_simp) _ _ 106 rfl Tryz.underlying106 (.agg zTm.toArray) 48 infoTm4 rfl (by decide) RTm.one RTm.keeps rfl rfl hO2.out hu ?l3 ?m3 ?b3 ?k3))
  case l3 => have:=HL.out;simp [maxLen];omega
  case m3 => have:=HL.out;simp;omega
  case b3 => have:=hsz0.out;simp;omega
  case k3 =>
  intro v' w' o' g' sn';have hbl:=HO.out.block;have hs2:∀ o1 o2,((W.alloc o1).alloc o2).heap.size=W.heap.size+2:=fun o1 o2 => by simp
  have T1:TmsAt w0 W w' (.slice A n c) v' (L++[⟨tv,⟨xk,xn,xs⟩⟩]):=⟨o',(Only.fut HF1.out).then (Only.grown (S:=fun k => (Value.slice A n c).ownBlock=some k) g' fun k hk => hk) (fun i hi _ => .inl hi),fun k hk => by
   rcases sn' with e|e
   ·exact .inl (e ▸ hk)
   ·right
    have:=e k hk;rw [hs2] at this;omega⟩
  have hne:∀ k,v'.ownBlock=some k→k≠W.heap.size:=fun k hk => by
   rcases sn' with e|e
   ·have:=(hbl k (e ▸ hk)).2;omega
   ·have:=e k hk;rw [hs2] at this;omega
  have B1:=(Only.grown (S:=fun k => (Value.slice A n c).ownBlock=some k) g' fun k hk => hk).keeps hHB2.out (fun h => by have:=(hbl _ h).2;omega);have HFw:=Hh (T1.fut HF.out HO.out);have HT1:=Hh T1;have HN1:=Hh hne;have HB1:=Hh B1;clear T1 hne B1 o' g' sn' hs2 hu hO2 HB hHB2 HF1 x1 x2 x3 x4;go_wp2_with fail;go_loopw [0,5] (fun u i wr => ∃ k:Nat,k≤ks.length∧i = .int .i64 k∧Hid (TmsAt w0 W wr (.slice A n c) u (L++⟨tv,⟨xk,xn,xs⟩⟩ :: (ks.take k).flatMap Ex.tms))∧Hid (∀ j,u.ownBlock=some j→j≠W.heap.size)∧Hid (wr.heap[W.heap.size]?=some (.cells #[.int .i8 op,.string tv,.int .i8 xk,.int .i64 xn,.string xs,.slice A1 ks.length c1] 118 (0,0)))) (fun _ i _ => ks.length - (intOf i).toNat)
  case atStart => exact ⟨0,Nat.zero_le _,rfl,(by simpa using HT1),HN1,HB1⟩
  case round =>
   obtain ⟨k,hk,rfl,hT,hN,hB⟩:=hrel;have y5:=cell_at hB.out 5 _ rfl;have FW:=Hh (hT.out.fut HF.out HO.out);have hbw:=Hh (lt_of_block hB.out)
   by_cases hlt:k<ks.length
   ·have hltI:(k:Int)<ks.length:=by omega
    have e0:(0:Int)≤k∧(k:Int)<ks.length:=by omega
    obtain ⟨b',off,cs,rfl,hr,hl6,hcs⟩:=sl_rowR HK.out hlt;have hcs9:=Hh (fun j v hj => FW.out.cell (hcs j v hj));have hi6:(Tryz.prog.info? 118).map (·.size)=some cs.length:=by rw [hl6];exact infoEx6'
    have htk:=Hh (tms_take hlt);have hle:=tms_le hlt;obtain ⟨M,hM⟩:∃ M,L++⟨tv,⟨xk,xn,xs⟩⟩ :: (ks.take k).flatMap Ex.tms=M:=⟨_,rfl⟩
    have hMl:M.length+ks[k].tms.length≤1000000000:=(by have:=HL.out;rw [← hM];simp only [List.length_append,List.length_cons];omega)
    rw [hM] at hT;obtain ⟨Au,cu,rfl,_,_⟩:=hT.out.1.rep.form;replace hM:=Hh hM;generalize ks[k]=z at *;have HC:=Hh (IH.out z cs w0 wr Au _ cu _ hr FW.out hT.out.1 hMl);clear hcs hr hle hMl;go_wp2_with (first|(show wpList _ _ _ (Oper.mk _ (Op.load 118 _) _ _ _ _ :: _) _ _;refine Go.wpList_load_mid rfl _ _ rfl b' (off+k * 6) rfl cs _ hcs9.out Tryz.underlying118 rfl hi6 ?_));refine HC.out.mono ?_;rintro e w3 ⟨v3,rfl,T3⟩
    have hN3:Hid (∀ j,v3.ownBlock=some j→j≠W.heap.size):=Hh fun j hj => by
     rcases T3.2.2 j hj with e|e
     ·exact hN.out j e
     ·have:=hbw.out;omega
    have hB3:=Hh (T3.2.1.keeps hB.out (fun h => by
     rcases h with h|h
     ·exact hN.out _ h rfl
     ·have:=hbw.out;omega))
    have hT3:=hT.out.trans T3;rw [← hM.out,List.append_assoc,List.cons_append,← htk.out] at hT3;clear hM;replace hT3:=Hh hT3;clear T3 HC hT hN hB FW hcs9 hbw;go_wp2;go_roundw
    case rel => exact ⟨k+1,by omega,by go_num,hT3,hN3,hB3⟩
    case measure => simp [intOf] <;> omega
   ·obtain rfl:k=ks.length:=by omega
    rw [List.take_length] at hT;clear hN hB FW;go_wp2;go_ret;exact ⟨_,rfl,hT.out⟩
def Lt.tms (x:Lt):List Tm:=x.a++(x.l.tms++x.d.tms)
theorem Lt.tms_vs (x:Lt):x.tms.map (·.v)=x.vs:=by
 unfold Lt.tms Lt.vs;rw [List.map_append,List.map_append,Ex.tms_vs,Ex.tms_vs]
theorem TmsAt.more {w0 W W1 w':World} {lv v v':Value} {M:List Tm} {t:Tm} {o:Obj} (h:TmsAt w0 W W1 lv v M) (o':OwnL 4 w0.heap.size 115 RTm w' v' (M++[t])) (g':(W1.alloc o).grownBy w' v.ownBlock) (sn':SameOrNew (W1.alloc o) v v'):TmsAt w0 W w' lv v' (M++[t]) :=
 h.trans ⟨o',(Only.fut (Fut.alloc W1 o)).then (Only.grown (S:=fun k => v.ownBlock=some k) g' fun k hk => hk) (fun i hi _ => .inl hi),fun k hk => by
  rcases sn' with e|e
  ·exact .inl (e ▸ hk)
  ·right
   have:=e k hk;rw [show (W1.alloc o).heap.size=W1.heap.size+1 by simp] at this;omega⟩
theorem TmsAt.keep {w0 W W':World} {lv v:Value} {M:List Tm} {b:Nat} {o:Obj} (h:TmsAt w0 W W' lv v M) (hb:W.heap[b]?=some o) (hn:∀ j,lv.ownBlock=some j→j≠b):W'.heap[b]?=some o∧∀ j,v.ownBlock=some j→j≠b:=by
 have hl:=lt_of_block hb;refine ⟨h.2.1.keeps hb (fun h => ?_),fun j hj => ?_⟩
 ·rcases h with h|h
  ·exact hn _ h rfl
  ·omega
 ·rcases h.2.2 j hj with e|e
  ·exact hn j e
  ·omega
set_option maxHeartbeats 4000000 in
set_option maxRecDepth 100000 in
theorem rlts_any (x:Lt) (cs:List Value) (w0 W:World) (A0:Option Addr) (n0 c0:Nat) (L:List Tm) (h:RLt w0 cs x) (hF:Fut w0 W) (hO:OwnL 4 w0.heap.size 115 RTm W (.slice A0 n0 c0) L) (hl:L.length+x.tms.length≤1000000000) :
    Calls Tryz.prog 296 #[.slice A0 n0 c0,.agg cs.toArray] W fun e W' => ∃ v,e = .returned v∧TmsAt w0 W W' (.slice A0 n0 c0) v (L++x.tms):=by
 obtain ⟨k,p,a,r,l,d⟩:=x;obtain ⟨av,cl,cd,rfl,_,_,_,_,hp,ha,⟨n1,h1⟩,⟨n2,h2⟩⟩:=h;dsimp only at *;obtain ⟨A,c,rfl,_,hcm⟩:=ha.form;have H1:=Hh h1;have H2:=Hh h2;obtain ⟨m1,op1,⟨tv1,⟨xk1,xn1,xs1⟩⟩,ks1,A1,c1,rfl,rfl,rfl,_,_,_⟩:=ex_form h1;obtain ⟨m2,op2,⟨tv2,⟨xk2,xn2,xs2⟩⟩,ks2,A2,c2,rfl,rfl,rfl,_,_,_⟩:=ex_form h2;unfold Lt.tms at *;dsimp only at *;rw [List.length_append,List.length_append] at hl;show Calls Tryz.prog 296 #[.slice A0 n0 c0,.agg #[.int .i8 k,.string p,.slice A a.length c,.int .i8 r,.int .i8 op1,.string tv1,.int .i8 xk1,.int .i64 xn1,.string xs1,.slice A1 ks1.length c1,.int .i8 op2,.string tv2,.int .i8 xk2,.int .i64 xn2,.string xs2,.slice A2 ks2.length c2]] W _;have hbx:=heap_alloc_new W (.cells #[.int .i8 k,.string p,.slice A a.length c,.int .i8 r,.int .i8 op1,.string tv1,.int .i8 xk1,.int .i64 xn1,.string xs1,.slice A1 ks1.length c1,.int .i8 op2,.string tv2,.int .i8 xk2,.int .i64 xn2,.string xs2,.slice A2 ks2.length c2] 120);have f0:=Fut.alloc W (.cells #[.int .i8 k,.string p,.slice A a.length c,.int .i8 r,.int .i8 op1,.string tv1,.int .i8 xk1,.int .i64 xn1,.string xs1,.slice A1 ks1.length c1,.int .i8 op2,.string tv2,.int .i8 xk2,.int .i64 xn2,.string xs2,.slice A2 ks2.length c2] 120);have hbl:=hO.block;have T0:Hid (TmsAt w0 W (W.alloc (.cells #[.int .i8 k,.string p,.slice A a.length c,.int .i8 r,.int .i8 op1,.string tv1,.int .i8 xk1,.int .i64 xn1,.string xs1,.slice A1 ks1.length c1,.int .i8 op2,.string tv2,.int .i8 xk2,.int .i64 xn2,.string xs2,.slice A2 ks2.length c2] 120)) (.slice A0 n0 c0) (.slice A0 n0 c0) (L++a.take 0)):=Hh ⟨by rw [List.take_zero,List.append_nil];exact hO.fut RTm.stays f0,Only.fut f0,fun k hk => .inl hk⟩;have N0:Hid (∀ j,(Value.slice A0 n0 c0).ownBlock=some j→j≠W.heap.size):=Hh fun j hj => by have:=(hbl j hj).2;omega
 have B0:=Hh hbx;have HF:=Hh hF;have HO:=Hh hO;have HL:=Hh hl;have HA:=Hh ha;have hxl:a.length≤9223372036854775807:=by omega
 have hsz0:=Hh hF.size;generalize hE1:Ex.tms (Ex.mk op1 ⟨tv1,⟨xk1,xn1,xs1⟩⟩ ks1)=t1 at *;generalize hE2:Ex.tms (Ex.mk op2 ⟨tv2,⟨xk2,xn2,xs2⟩⟩ ks2)=t2 at *;replace hE1:=Hh hE1;replace hE2:=Hh hE2;clear hbx f0 hbl hF hO hl ha h1 h2 hcm;go_enter Tryz.func296,Tryz.ntmps296;go_wp2_with fail;go_loopw [0,5] (fun u i wr => ∃ q:Nat,q≤a.length∧i = .int .i64 q∧Hid (TmsAt w0 W wr (.slice A0 n0 c0) u (L++a.take q))∧Hid (∀ j,u.ownBlock=some j→j≠W.heap.size)∧Hid (wr.heap[W.heap.size]?=some (.cells #[.int .i8 k,.string p,.slice A a.length c,.int .i8 r,.int .i8 op1,.string tv1,.int .i8 xk1,.int .i64 xn1,.string xs1,.slice A1 ks1.length c1,.int .i8 op2,.string tv2,.int .i8 xk2,.int .i64 xn2,.string xs2,.slice A2 ks2.length c2] 120 (0,0)))) (fun _ i _ => a.length - (intOf i).toNat)
 case atStart => exact ⟨0,Nat.zero_le _,rfl,T0,N0,B0⟩
 case round =>
  obtain ⟨q,hq,rfl,hT,hN,hB⟩:=hrel;have y2:=cell_at hB.out 2 _ rfl;have FW:=Hh (hT.out.fut HF.out HO.out);have hbw:=Hh (lt_of_block hB.out)
  by_cases hlt:q<a.length
  ·have hltI:(q:Int)<a.length:=by omega
   have e0:(0:Int)≤q∧(q:Int)<a.length:=by omega
   have htk:=Hh (show a.take (q+1)=a.take q++[a[q]] from List.take_succ_eq_append_getElem hlt);obtain ⟨b',off,rfl,hok,u0',u1',u2',u3'⟩:=tm_at (HA.out.fut RTm.stays FW.out) hlt;obtain ⟨M,hM⟩:∃ M,L++a.take q=M:=⟨_,rfl⟩
   have hMl:M.length+1≤1000000000:=(by have:=HL.out;rw [← hM];simp only [List.length_append,List.length_take];omega)
   rw [hM] at hT;replace hM:=Hh hM;generalize a[q]=z at *;have hsw:=Hh FW.out.size;obtain ⟨Au,cu,rfl,_,_⟩:=hT.out.1.rep.form;have hO2:=Hh (fun o => hT.out.1.fut RTm.stays (Fut.alloc wr o));have hu:=Hh (tmOne wr z hok 115);clear hok;go_wp2_with (first|(at_builtin;refine wpList_append_LB (R:=RTm) (B:=w0.heap.size) (M:=1) (xs:=M) (ys:=[z]) (e:=115) (by go_simp) _ _ 106 rfl Tryz.underlying106 (.agg zTm.toArray) 48 infoTm4 rfl (by decide) RTm.one RTm.keeps rfl rfl (hO2.out _) hu.out ?l3 ?m3 ?b3 ?k3))
   case l3 => simp [maxLen];omega
   case m3 => simp;omega
   case b3 => have:=hsw.out;simp;omega
   case k3 =>
   intro v' w' o' g' sn';have T1:=hT.out.more o' g' sn';obtain ⟨hB3,hN3⟩:=((TmsAt.refl hT.out.1).more o' g' sn').keep hB.out hN.out;rw [← hM.out,List.append_assoc,← htk.out] at T1;have HT3:=Hh T1;have HB3:=Hh hB3;have HN3:=Hh hN3;clear T1 hB3 hN3 hM o' g' sn' hT hN hB FW hbw hsw hO2 hu;go_wp2;go_roundw
   case rel => exact ⟨q+1,by omega,by go_num,HT3,HN3,HB3⟩
   case measure => simp [intOf] <;> omega
  ·obtain rfl:q=a.length:=by omega
   rw [List.take_length] at hT;obtain ⟨M,hM⟩:∃ M,L++a=M:=⟨_,rfl⟩
   have hMl:M.length+(t1.length+t2.length)≤1000000000:=(by have:=HL.out;rw [← hM];simp only [List.length_append];omega)
   rw [hM] at hT;have HM:=Hh hM;obtain ⟨Au,cu,rfl,_,_⟩:=hT.out.1.rep.form;have HC1:=Hh (show Calls Tryz.prog 328 #[.slice Au M.length cu,.agg #[.int .i8 op1,.string tv1,.int .i8 xk1,.int .i64 xn1,.string xs1,.slice A1 ks1.length c1]] wr fun e W' => ∃ v,e = .returned v∧TmsAt w0 wr W' (.slice Au M.length cu) v (M++t1) from hE1.out ▸ rets_any _ _ _ w0 wr Au _ cu M H1.out FW.out hT.out.1 (by rw [hE1.out];omega));have lB:World.rangeAt wr W.heap.size 4 [.int .i8 op1,.string tv1,.int .i8 xk1,.int .i64 xn1,.string xs1,.slice A1 ks1.length c1]:=range_mid (cs:=[.int .i8 k,.string p,.slice A a.length c,.int .i8 r,.int .i8 op1,.string tv1,.int .i8 xk1,.int .i64 xn1,.string xs1,.slice A1 ks1.length c1,.int .i8 op2,.string tv2,.int .i8 xk2,.int .i64 xn2,.string xs2,.slice A2 ks2.length c2]) hB.out 4 6;clear hM;go_wp2_with (first|(show wpList _ _ _ (Oper.mk _ (Op.load 118 _) _ _ _ _ :: _) _ _;refine wpList_loadG (wanted_none rfl _) _ _ rfl W.heap.size 4 rfl [.int .i8 op1,.string tv1,.int .i8 xk1,.int .i64 xn1,.string xs1,.slice A1 ks1.length c1] _ lB Tryz.underlying118 rfl infoEx6' ?_));refine HC1.out.mono ?_;rintro e w3 ⟨v3,rfl,T3⟩;obtain ⟨hB3,hN3⟩:=T3.keep hB.out hN.out;have HT3:=Hh (hT.out.trans T3);have F3:=Hh (T3.fut FW.out hT.out.1);have lC:World.rangeAt w3 W.heap.size 10 [.int .i8 op2,.string tv2,.int .i8 xk2,.int .i64 xn2,.string xs2,.slice A2 ks2.length c2]:=range_mid (cs:=[.int .i8 k,.string p,.slice A a.length c,.int .i8 r,.int .i8 op1,.string tv1,.int .i8 xk1,.int .i64 xn1,.string xs1,.slice A1 ks1.length c1,.int .i8 op2,.string tv2,.int .i8 xk2,.int .i64 xn2,.string xs2,.slice A2 ks2.length c2]) hB3 10 6;clear HC1 lB T3 hT hB hN FW hbw hB3 hN3;obtain ⟨N,hN⟩:∃ N,M++t1=N:=⟨_,rfl⟩
   have hNl:N.length+t2.length≤1000000000:=(by rw [← hN,List.length_append];omega)
   rw [hN] at HT3;have HN:=Hh hN;obtain ⟨Av,cv,rfl,_,_⟩:=HT3.out.1.rep.form;have HC2:=Hh (show Calls Tryz.prog 328 #[.slice Av N.length cv,.agg #[.int .i8 op2,.string tv2,.int .i8 xk2,.int .i64 xn2,.string xs2,.slice A2 ks2.length c2]] w3 fun e W' => ∃ v,e = .returned v∧TmsAt w0 w3 W' (.slice Av N.length cv) v (N++t2) from hE2.out ▸ rets_any _ _ _ w0 w3 Av _ cv N H2.out F3.out HT3.out.1 (by rw [hE2.out];omega));clear hN;go_wp2_with (first|(show wpList _ _ _ (Oper.mk _ (Op.load 118 _) _ _ _ _ :: _) _ _;refine wpList_loadG (wanted_none rfl _) _ _ rfl W.heap.size 10 rfl [.int .i8 op2,.string tv2,.int .i8 xk2,.int .i64 xn2,.string xs2,.slice A2 ks2.length c2] _ lC Tryz.underlying118 rfl infoEx6' ?_));refine HC2.out.mono ?_;rintro e w5 ⟨v5,rfl,T5⟩;have HT5:=HT3.out.trans T5;rw [← HN.out,← HM.out,List.append_assoc,List.append_assoc] at HT5;clear T5 HC2 lC HT3 F3;go_wp2;go_ret;exact ⟨_,rfl,HT5⟩
def Ru.tms (x:Ru):List Tm:=x.h.map (·.t)++x.b.flatMap Lt.tms
theorem Ru.tms_vs (x:Ru):x.tms.map (·.v)=x.hs++x.bs:=by
 unfold Ru.tms Ru.hs Ru.bs;rw [List.map_append,List.map_map,List.map_flatMap];congr 1;congr 1;funext y;exact y.tms_vs
theorem ltms_take {l:List Lt} {k:Nat} (hk:k<l.length):(l.take (k+1)).flatMap Lt.tms=(l.take k).flatMap Lt.tms++(l[k]).tms:=by
 rw [List.take_succ_eq_append_getElem hk,List.flatMap_append];simp
theorem ltms_le {l:List Lt} {k:Nat} (hk:k<l.length):((l.take k).flatMap Lt.tms).length+(l[k]).tms.length≤(l.flatMap Lt.tms).length:=by
 have h1:(l.flatMap Lt.tms).length=((l.take (k+1)).flatMap Lt.tms).length+((l.drop (k+1)).flatMap Lt.tms).length:=by
  rw [← List.length_append,← List.flatMap_append,List.take_append_drop]
 rw [ltms_take hk,List.length_append] at h1;omega
end Go.Proofs.YtobabnpllokkaaaGreatDoor
