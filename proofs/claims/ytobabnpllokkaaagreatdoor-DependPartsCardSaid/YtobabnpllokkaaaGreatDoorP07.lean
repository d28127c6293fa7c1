/- Parts. -/
import Derived.Sort.Statements
import Derived.Maps.Keyed
import Derived.Maps.Own
import Derived.Maps.OwnSet
import Derived.DeepKeys4
import Derived.Shelf.SlIter.Nil
import Derived.Shelf.SortM.Plain
import Derived.Shelf.SortM.SortNone
import Derived.Ground.GgzProg
import Derived.Ground.SlgmProg
import Derived.Test.YtobabnpllokkaaaGreatDoorProg
import Derived.Test.YtobabnpllokkaaaGreatDoorP06
import Derived.Test.YtobabnpllokkaaaGreatDoorP01
import Derived.Test.YtobabnpllokkaaaGreatDoorP02
import Derived.Test.YtobabnpllokkaaaGreatDoorP00
set_option linter.unusedSimpArgs false
set_option linter.unusedVariables false
namespace Go.Proofs.YtobabnpllokkaaaGreatDoor
open Go.RowKit
set_option maxHeartbeats 1600000 in
theorem contE_any {n m M:Nat} (IH:DeepOk n) (hn:n<1000) (A:Option Addr) (c:Nat) (xs:List Ex) (p:Nat) (w:World) (h:SlRep 6 M (RX0 m w) w (.slice A xs.length c) xs) (hM:M≤9223372036854775807) (hp:w.cell? ⟨p,0,none⟩=some (.int .i64 ((n+1:Nat):Int))) :
    Calls Tryz.prog 365 #[.slice A xs.length c,.func (.func 366) #[] #[.pointer (some ⟨p,0,none⟩)]] w fun e w' => e = .returned (.bool (!xs.all (deepE n)))∧Fut w w':=by
 have HI:=Hh (idxE_any IH hn A c xs p w h hM hp);obtain ⟨b,hb⟩:∃ b,(!xs.all (deepE n))=b:=⟨_,rfl⟩
 rw [hb] at HI ⊢;clear h hp IH hb;go_enter Tryz.func365,Tryz.ntmps365;go_wp2_with fail;refine HI.out.mono ?_;rintro e w1 ⟨r,rfl,hr,f1⟩
 by_cases h0:0≤r
 ·obtain rfl:b=true:=by rw [← hr];simp [h0]
  have h0':r≥0:=h0;go_wp2;go_ret;exact ⟨by first|rfl|simp,f1⟩
 ·obtain rfl:b=false:=by rw [← hr];simp [h0]
  have h0':¬ r≥0:=h0;go_wp2;go_ret;exact ⟨by first|rfl|simp,f1⟩
set_option maxHeartbeats 2000000 in
set_option maxRecDepth 100000 in
theorem deep_any:∀ n,n<1000→DeepOk n
 | 0,_ => fun x A c m w h => by
  unfold Ex.cs;generalize x.kids.length=l at *;go_enter Tryz.func355,Tryz.ntmps355;go_wp2;go_ret;exact ⟨rfl,(Fut.alloc _ _).trans (Fut.alloc _ _)⟩
 | n+1,hn => fun x A c m w h => by
  have IH:=Hh (deep_any n (by omega));obtain ⟨m',op,t,ks,A',c',hm,rfl,hcs,hk1,hk2,hks⟩:=ex_form h;obtain ⟨kv',hcs',hw1,ht,_⟩:∃ kv,(Ex.mk op t ks).cs (.slice A ks.length c)=[.int .i8 op,.string t.v,.int .i8 t.x.k,.int .i64 t.x.n,.string t.x.s,kv]∧(Lit.int .i8 op).wf=true∧t.ok∧SlRep 6 1759218604441 (RE m') w kv ks:=by subst hm;exact h
  have eA:A=A'∧c=c':=by
   unfold Ex.cs at hcs;injection hcs with _ hcs;injection hcs with _ hcs;injection hcs with _ hcs;injection hcs with _ hcs;injection hcs with _ hcs;injection hcs with hcs _
   injection hcs with q1 _ q2
   exact ⟨q1,q2⟩
  obtain ⟨rfl,rfl⟩:=eA;have HK:=Hh ((hks.imp fun cs x h => (h:RX0 m' w w cs x)));have HS:=Hh (fun W => solidT_any t W ht);have HN:=Hh (fun W => noneT_any t W);have HC:=Hh (fun (W:World) (hW:Fut w W) (p:Nat) (hp:W.cell? ⟨p,0,none⟩=some (.int .i64 ((n+1:Nat):Int))) => contE_any (M:=1759218604441) IH.out (by omega) A c ks p W ((hks.fut (RE.stays m') hW).imp fun cs x h => (h:RX0 m' W W cs x)) (by omega) hp);obtain ⟨b,hb⟩:∃ b,deepE (n+1) (Ex.mk op t ks)=b:=⟨_,rfl⟩
  rw [hb];replace hb:(if op=0 then decide (ks.length=0) && t.solid else t.zero && decide ((ks.length:Int)=arityE op) && ks.all (deepE n))=b:=hb;show Calls _ _ #[.agg #[.int .i8 op,.string t.v,.int .i8 t.x.k,.int .i64 t.x.n,.string t.x.s,.slice A ks.length c],.int .i64 ((n+1:Nat):Int)] w _;clear h hcs hcs' hks hw1 ht HK;replace hb:=Hh hb;obtain ⟨s,hs⟩:∃ s,t.solid=s:=⟨_,rfl⟩
  obtain ⟨z,hz⟩:∃ z,t.zero=z:=⟨_,rfl⟩
  obtain ⟨al,hal⟩:∃ al,ks.all (deepE n)=al:=⟨_,rfl⟩
  obtain ⟨l,hlk⟩:∃ l,ks.length=l:=⟨_,rfl⟩
  rw [hs] at HS hb;rw [hz] at HN hb;rw [hal] at HC hb;rw [hlk] at HC hb ⊢;clear hs hz hal hlk hk1;have hnz:¬ ((n:Int)+1=0):=by omega
  by_cases ho:op=0
  ·subst ho
   by_cases hl:l=0
   ·subst hl;obtain rfl:b=s:=by rw [← hb.out];simp
    cases b
    all_goals
     go_enter Tryz.func355,Tryz.ntmps355;go_wp2_with fail;refine (HS.out _).mono ?_;rintro e w1 ⟨rfl,f1⟩;go_wp2;go_ret;exact ⟨by first|rfl|simp,((Fut.alloc _ _).trans (Fut.alloc _ _)).trans f1⟩
   ·obtain rfl:b=false:=by rw [← hb.out];simp [hl]
    have hlI:((l:Int) == 0)=false:=by rw [beq_eq_false_iff_ne];omega
    have hlJ:¬ (l:Int)=0:=by omega
    go_enter Tryz.func355,Tryz.ntmps355;go_wp2;go_ret;exact ⟨by first|rfl|simp,(Fut.alloc _ _).trans (Fut.alloc _ _)⟩
  ·have hoI:(op == 0)=false:=by rw [beq_eq_false_iff_ne];exact ho
   have hbo:=Hh (show (z && decide ((l:Int)=arityE op) && al)=b by rw [← hb.out,if_neg ho]);clear hb;cases z
   ·obtain rfl:b=false:=by rw [← hbo.out];simp
    have hB0:=heap_alloc_new w (.cells #[.int .i8 op,.string t.v,.int .i8 t.x.k,.int .i64 t.x.n,.string t.x.s,.slice A l c] 118);have hB1:=(Fut.alloc (w.alloc (.cells #[.int .i8 op,.string t.v,.int .i8 t.x.k,.int .i64 t.x.n,.string t.x.s,.slice A l c] 118)) (.cells #[.int .i64 ((n+1:Nat):Int)] 3)).block hB0;have hB2:=heap_alloc_new (w.alloc (.cells #[.int .i8 op,.string t.v,.int .i8 t.x.k,.int .i64 t.x.n,.string t.x.s,.slice A l c] 118)) (.cells #[.int .i64 ((n+1:Nat):Int)] 3);have hsz:(w.alloc (.cells #[.int .i8 op,.string t.v,.int .i8 t.x.k,.int .i64 t.x.n,.string t.x.s,.slice A l c] 118)).heap.size=w.heap.size+1:=by simp
    rw [hsz] at hB2;have FB:=Hh ((Fut.alloc w (.cells #[.int .i8 op,.string t.v,.int .i8 t.x.k,.int .i64 t.x.n,.string t.x.s,.slice A l c] 118)).trans (Fut.alloc (w.alloc (.cells #[.int .i8 op,.string t.v,.int .i8 t.x.k,.int .i64 t.x.n,.string t.x.s,.slice A l c] 118)) (.cells #[.int .i64 ((n+1:Nat):Int)] 3)));have y0:=cell_at hB1 0 (.int .i8 op) rfl;have y1:=cell_at hB1 1 (.string t.v) rfl;have y2:=cell_at hB1 2 (.int .i8 t.x.k) rfl;have y3:=cell_at hB1 3 (.int .i64 t.x.n) rfl;have y4:=cell_at hB1 4 (.string t.x.s) rfl;have y5:=cell_at hB1 5 (.slice A l c) rfl;have yl:=cell_at hB2 0 (.int .i64 ((n+1:Nat):Int)) rfl;clear hB0 hB1 hB2 hsz;go_enter Tryz.func355,Tryz.ntmps355;go_wp2_with fail;refine wp_graph 13 [.d,.d,.d,.d,.d,.d,.d,.d,.d,.d,.d,.d,.d] (by kernel_rfl) (by kernel_rfl) (by kernel_rfl) ?_;simp only [takS,Exs]
    iterate 13 apply Exists.intro
    apply Run.valG (wanted_none rfl _)
    ·intro w1 h1 hk;go_simp;rfl
    simp only [actS];apply Run.valG (wanted_none rfl _)
    ·intro w1 h1 hk;have q1:=h1.cell y1;have q2:=h1.cell y2;have q3:=h1.cell y3;have q4:=h1.cell y4;have hcw:=fun b o => Below.cell (p:=⟨b,o,none⟩) h1;go_simp;rfl
    simp only [actS];apply Run.call (wanted_none rfl _) (fun _ _ => by go_simp;exact ⟨rfl,rfl⟩)
    ·intro w1 h1 hk;have q1:=h1.cell y1;have q2:=h1.cell y2;have q3:=h1.cell y3;have q4:=h1.cell y4;exact HN.out _
    simp only [actS]
    iterate 2
     apply Run.valG (wanted_none rfl _)
     ·intro w1 h1 hk;go_simp;rfl
     simp only [actS]
    iterate 7
     apply Run.skip (by first|(go_simp;done)|(go_simp;exact fun h => nomatch h));simp only [actS]
    apply Run.valG (wanted_none rfl _)
    ·intro w1 h1 hk;go_simp;rfl
    simp only [actS];apply Run.done;intro w2 h2 hk;clear hk;have F2:=Hh (FB.out.trans ((Fut.drew _).trans h2));clear h2;go_wp2;go_ret;exact ⟨by first|rfl|simp,F2.out⟩
   ·by_cases hla:(l:Int)=arityE op
    ·obtain rfl:b=al:=by rw [← hbo.out];simp [hla]
     have hB0:=heap_alloc_new w (.cells #[.int .i8 op,.string t.v,.int .i8 t.x.k,.int .i64 t.x.n,.string t.x.s,.slice A l c] 118);have hB1:=(Fut.alloc (w.alloc (.cells #[.int .i8 op,.string t.v,.int .i8 t.x.k,.int .i64 t.x.n,.string t.x.s,.slice A l c] 118)) (.cells #[.int .i64 ((n+1:Nat):Int)] 3)).block hB0;have hB2:=heap_alloc_new (w.alloc (.cells #[.int .i8 op,.string t.v,.int .i8 t.x.k,.int .i64 t.x.n,.string t.x.s,.slice A l c] 118)) (.cells #[.int .i64 ((n+1:Nat):Int)] 3);have hsz:(w.alloc (.cells #[.int .i8 op,.string t.v,.int .i8 t.x.k,.int .i64 t.x.n,.string t.x.s,.slice A l c] 118)).heap.size=w.heap.size+1:=by simp
     rw [hsz] at hB2;have FB:=Hh ((Fut.alloc w (.cells #[.int .i8 op,.string t.v,.int .i8 t.x.k,.int .i64 t.x.n,.string t.x.s,.slice A l c] 118)).trans (Fut.alloc (w.alloc (.cells #[.int .i8 op,.string t.v,.int .i8 t.x.k,.int .i64 t.x.n,.string t.x.s,.slice A l c] 118)) (.cells #[.int .i64 ((n+1:Nat):Int)] 3)));have y0:=cell_at hB1 0 (.int .i8 op) rfl;have y1:=cell_at hB1 1 (.string t.v) rfl;have y2:=cell_at hB1 2 (.int .i8 t.x.k) rfl;have y3:=cell_at hB1 3 (.int .i64 t.x.n) rfl;have y4:=cell_at hB1 4 (.string t.x.s) rfl;have y5:=cell_at hB1 5 (.slice A l c) rfl;have yl:=cell_at hB2 0 (.int .i64 ((n+1:Nat):Int)) rfl;clear hB0 hB1 hB2 hsz;go_enter Tryz.func355,Tryz.ntmps355;go_wp2_with fail;have hlb:((l:Int) == arityE op)=true:=by rw [hla];simp
     refine wp_graph 13 [.d,.d,.d,.d,.d,.d,.d,.d,.d,.d,.d,.d,.d] (by kernel_rfl) (by kernel_rfl) (by kernel_rfl) ?_;simp only [takS,Exs]
     iterate 13 apply Exists.intro
     apply Run.valG (wanted_none rfl _)
     ·intro w1 h1 hk;go_simp;rfl
     simp only [actS];apply Run.valG (wanted_none rfl _)
     ·intro w1 h1 hk;have q0:=h1.cell y0;have q1:=h1.cell y1;have q2:=h1.cell y2;have q3:=h1.cell y3;have q4:=h1.cell y4;have q5:=h1.cell y5;have hcw:=fun b o => Below.cell (p:=⟨b,o,none⟩) h1;go_simp;rfl
     simp only [actS];apply Run.call (wanted_none rfl _) (fun _ _ => by go_simp;exact ⟨rfl,rfl⟩)
     ·intro w1 h1 hk;have q0:=h1.cell y0;have q1:=h1.cell y1;have q2:=h1.cell y2;have q3:=h1.cell y3;have q4:=h1.cell y4;have q5:=h1.cell y5;exact HN.out _
     simp only [actS]
     iterate 2
      apply Run.valG (wanted_none rfl _)
      ·intro w1 h1 hk;go_simp;rfl
      simp only [actS]
     apply Run.valG (by go_simp)
     ·intro w1 h1 hk;go_simp;rfl
     simp only [actS]
     iterate 2
      apply Run.valG (by go_simp)
      ·intro w1 h1 hk;have q0:=h1.cell y0;have q1:=h1.cell y1;have q2:=h1.cell y2;have q3:=h1.cell y3;have q4:=h1.cell y4;have q5:=h1.cell y5;have hcw:=fun b o => Below.cell (p:=⟨b,o,none⟩) h1;go_simp;rfl
      simp only [actS]
     apply Run.valG (by go_simp)
     ·intro w1 h1 hk;go_simp;rfl
     simp only [actS];apply Run.valG (by go_simp)
     ·intro w1 h1 hk;have q0:=h1.cell y0;have q1:=h1.cell y1;have q2:=h1.cell y2;have q3:=h1.cell y3;have q4:=h1.cell y4;have q5:=h1.cell y5;have hcw:=fun b o => Below.cell (p:=⟨b,o,none⟩) h1;go_simp;rfl
     simp only [actS];apply Run.call (by go_simp) (fun _ _ => by go_simp;exact ⟨rfl,rfl⟩)
     ·intro w1 h1 hk;have q0:=h1.cell y0;have q1:=h1.cell y1;have q2:=h1.cell y2;have q3:=h1.cell y3;have q4:=h1.cell y4;have q5:=h1.cell y5;exact (arityT_any op _).mono fun e w' ⟨h,hw⟩ => ⟨h,hw ▸ Fut.refl _⟩
     simp only [actS];apply Run.valG (by go_simp)
     ·intro w1 h1 hk;go_simp;rfl
     simp only [actS];apply Run.valG (wanted_none rfl _)
     ·intro w1 h1 hk;go_simp;rfl
     simp only [actS];apply Run.done;intro w2 h2 hk;clear hk;have F2:=(Fut.drew _).trans h2;have x5:=F2.cell y5;have xl:=F2.cell yl;have FW:=Hh (FB.out.trans F2);clear h2 F2 y0 y1 y2 y3 y4 y5 yl;cases b
     all_goals
      go_wp2_with fail;refine (HC.out _ FW.out _ xl).mono ?_;rintro e w3 ⟨rfl,f3⟩;go_wp2;go_ret;exact ⟨by first|rfl|simp,FW.out.trans f3⟩
    ·obtain rfl:b=false:=by rw [← hbo.out];simp [hla]
     have hB0:=heap_alloc_new w (.cells #[.int .i8 op,.string t.v,.int .i8 t.x.k,.int .i64 t.x.n,.string t.x.s,.slice A l c] 118);have hB1:=(Fut.alloc (w.alloc (.cells #[.int .i8 op,.string t.v,.int .i8 t.x.k,.int .i64 t.x.n,.string t.x.s,.slice A l c] 118)) (.cells #[.int .i64 ((n+1:Nat):Int)] 3)).block hB0;have hB2:=heap_alloc_new (w.alloc (.cells #[.int .i8 op,.string t.v,.int .i8 t.x.k,.int .i64 t.x.n,.string t.x.s,.slice A l c] 118)) (.cells #[.int .i64 ((n+1:Nat):Int)] 3);have hsz:(w.alloc (.cells #[.int .i8 op,.string t.v,.int .i8 t.x.k,.int .i64 t.x.n,.string t.x.s,.slice A l c] 118)).heap.size=w.heap.size+1:=by simp
     rw [hsz] at hB2;have FB:=Hh ((Fut.alloc w (.cells #[.int .i8 op,.string t.v,.int .i8 t.x.k,.int .i64 t.x.n,.string t.x.s,.slice A l c] 118)).trans (Fut.alloc (w.alloc (.cells #[.int .i8 op,.string t.v,.int .i8 t.x.k,.int .i64 t.x.n,.string t.x.s,.slice A l c] 118)) (.cells #[.int .i64 ((n+1:Nat):Int)] 3)));have y0:=cell_at hB1 0 (.int .i8 op) rfl;have y1:=cell_at hB1 1 (.string t.v) rfl;have y2:=cell_at hB1 2 (.int .i8 t.x.k) rfl;have y3:=cell_at hB1 3 (.int .i64 t.x.n) rfl;have y4:=cell_at hB1 4 (.string t.x.s) rfl;have y5:=cell_at hB1 5 (.slice A l c) rfl;have yl:=cell_at hB2 0 (.int .i64 ((n+1:Nat):Int)) rfl;clear hB0 hB1 hB2 hsz;go_enter Tryz.func355,Tryz.ntmps355;go_wp2_with fail;have hlb:((l:Int) == arityE op)=false:=by rw [beq_eq_false_iff_ne];exact hla
     refine wp_graph 13 [.d,.d,.d,.d,.d,.d,.d,.d,.d,.d,.d,.d,.d] (by kernel_rfl) (by kernel_rfl) (by kernel_rfl) ?_;simp only [takS,Exs]
     iterate 13 apply Exists.intro
     apply Run.valG (wanted_none rfl _)
     ·intro w1 h1 hk;go_simp;rfl
     simp only [actS];apply Run.valG (wanted_none rfl _)
     ·intro w1 h1 hk;have q0:=h1.cell y0;have q1:=h1.cell y1;have q2:=h1.cell y2;have q3:=h1.cell y3;have q4:=h1.cell y4;have q5:=h1.cell y5;have hcw:=fun b o => Below.cell (p:=⟨b,o,none⟩) h1;go_simp;rfl
     simp only [actS];apply Run.call (wanted_none rfl _) (fun _ _ => by go_simp;exact ⟨rfl,rfl⟩)
     ·intro w1 h1 hk;have q0:=h1.cell y0;have q1:=h1.cell y1;have q2:=h1.cell y2;have q3:=h1.cell y3;have q4:=h1.cell y4;have q5:=h1.cell y5;exact HN.out _
     simp only [actS]
     iterate 2
      apply Run.valG (wanted_none rfl _)
      ·intro w1 h1 hk;go_simp;rfl
      simp only [actS]
     apply Run.valG (by go_simp)
     ·intro w1 h1 hk;go_simp;rfl
     simp only [actS]
     iterate 2
      apply Run.valG (by go_simp)
      ·intro w1 h1 hk;have q0:=h1.cell y0;have q1:=h1.cell y1;have q2:=h1.cell y2;have q3:=h1.cell y3;have q4:=h1.cell y4;have q5:=h1.cell y5;have hcw:=fun b o => Below.cell (p:=⟨b,o,none⟩) h1;go_simp;rfl
      simp only [actS]
     apply Run.valG (by go_simp)
     ·intro w1 h1 hk;go_simp;rfl
     simp only [actS];apply Run.valG (by go_simp)
     ·intro w1 h1 hk;have q0:=h1.cell y0;have q1:=h1.cell y1;have q2:=h1.cell y2;have q3:=h1.cell y3;have q4:=h1.cell y4;have q5:=h1.cell y5;have hcw:=fun b o => Below.cell (p:=⟨b,o,none⟩) h1;go_simp;rfl
     simp only [actS];apply Run.call (by go_simp) (fun _ _ => by go_simp;exact ⟨rfl,rfl⟩)
     ·intro w1 h1 hk;have q0:=h1.cell y0;have q1:=h1.cell y1;have q2:=h1.cell y2;have q3:=h1.cell y3;have q4:=h1.cell y4;have q5:=h1.cell y5;exact (arityT_any op _).mono fun e w' ⟨h,hw⟩ => ⟨h,hw ▸ Fut.refl _⟩
     simp only [actS];apply Run.valG (by go_simp)
     ·intro w1 h1 hk;go_simp;rfl
     simp only [actS];apply Run.valG (wanted_none rfl _)
     ·intro w1 h1 hk;go_simp;rfl
     simp only [actS];apply Run.done;intro w2 h2 hk;clear hk;have F2:=Hh (FB.out.trans ((Fut.drew _).trans h2));clear h2 y0 y1 y2 y3 y4 y5 yl;go_wp2;go_ret;exact ⟨by first|rfl|simp,F2.out⟩
end Go.Proofs.YtobabnpllokkaaaGreatDoor
namespace Go.Proofs.YtobabnpllokkaaaGreatDoor
open Go.RowKit
set_option maxHeartbeats 1600000 in
theorem checkE_any (x:Ex) (A:Option Addr) (c m:Nat) (w:World) (h:RE m w (x.cs (.slice A x.kids.length c)) x):Calls Tryz.prog 339 #[.agg (x.cs (.slice A x.kids.length c)).toArray] w fun e w' => e = .returned (.int .i64 (if deepE 8 x=true then 0 else 40))∧Fut w w':=by
 have HD:=Hh (fun W (hW:Fut w W) => deep_any 8 (by decide) x A c m W (RE.stays m _ _ _ _ hW h));obtain ⟨b,hb⟩:∃ b,deepE 8 x=b:=⟨_,rfl⟩
 rw [hb] at HD ⊢;clear h hb;unfold Ex.cs at HD ⊢;generalize x.kids.length=l at *;generalize x.op=o at *;generalize x.t=t at *;go_enter Tryz.func339,Tryz.ntmps339;go_wp2_with fail;refine (HD.out _ (Fut.alloc _ _)).mono ?_;rintro e w1 ⟨rfl,f1⟩;go_wp2_with fail;refine (codeT_any _ _).mono ?_;rintro e w2 ⟨rfl,rfl⟩;cases b
 all_goals
  go_wp2;go_ret;exact ⟨by first|rfl|simp,(Fut.alloc _ _).trans f1⟩
theorem tm_at {M:Nat} {w:World} {A:Option Addr} {n cap:Nat} {xs:List Tm} (h:SlRep 4 M RTm w (.slice A n cap) xs) {k:Nat} (hk:k<xs.length) :
    ∃ b off,A=some ⟨b,off,none⟩∧(xs[k]).ok∧w.cell? ⟨b,off+k * 4,none⟩=some (.string (xs[k]).v)∧w.cell? ⟨b,off+k * 4+1,none⟩=some (.int .i8 (xs[k]).x.k)∧w.cell? ⟨b,off+k * 4+2,none⟩=some (.int .i64 (xs[k]).x.n)∧w.cell? ⟨b,off+k * 4+3,none⟩=some (.string (xs[k]).x.s):=by
 obtain ⟨A1,cap1,hv,_,_,h3⟩:=h;obtain ⟨b,off,cs,hA,hl,hc,hr,hok⟩:=h3 k _ (List.getElem?_eq_getElem hk);injection hv with hv _ _
 subst hr;exact ⟨b,off,hv.trans hA,hok,hc 0 _ rfl,hc 1 _ rfl,hc 2 _ rfl,hc 3 _ rfl⟩
set_option maxHeartbeats 1600000 in
theorem atom1_any (t:Tm) (w:World) (ht:t.ok):Calls Tryz.prog 354 #[.agg #[.string t.v,.int .i8 t.x.k,.int .i64 t.x.n,.string t.x.s]] w fun e w' => e = .returned (.bool (!t.good))∧Fut w w':=by
 have HC:=Hh (fun W => checkT_any t W ht);obtain ⟨b,hb⟩:∃ b,t.good=b:=⟨_,rfl⟩
 rw [hb] at HC ⊢;clear hb ht;cases b
 all_goals
  go_enter Tryz.func354,Tryz.ntmps354;go_wp2_with fail;refine (HC.out _).mono ?_;rintro e w1 ⟨rfl,f1⟩;go_wp2;go_ret;exact ⟨by first|rfl|simp,(Fut.alloc _ _).trans f1⟩
set_option maxHeartbeats 1600000 in
set_option maxRecDepth 100000 in
theorem idxT_any {M:Nat} (A:Option Addr) (c:Nat) (xs:List Tm) (w:World) (h:SlRep 4 M RTm w (.slice A xs.length c) xs) (hM:M≤9223372036854775807) :
    Calls Tryz.prog 363 #[.slice A xs.length c,.func (.func 354) #[] #[]] w fun e w' => ∃ r:Int,e = .returned (.int .i64 r)∧decide (0≤r)=!xs.all Tm.good∧Fut w w':=by
 have H:=Hh h;obtain ⟨_,_,hv,hl1,hl2⟩:=h.form;have hxl:xs.length≤9223372036854775807:=by omega
 clear h hv hl1 hl2;go_enter Tryz.func363,Tryz.ntmps363;go_wp2_with fail;go_loopw [8] (fun i wr => ∃ k:Nat,k≤xs.length∧i = .int .i64 k∧Hid (∀ x ∈ xs.take k,x.good=true)∧Hid (Fut w wr)) (fun i _ => xs.length - (intOf i).toNat)
 case atStart => exact ⟨0,Nat.zero_le _,rfl,Hh (fun x hx => by simp at hx),Hh (Fut.refl _)⟩
 case round =>
  obtain ⟨k,hk,rfl,hI,hF⟩:=hrel
  by_cases hlt:k<xs.length
  ·have hltI:(k:Int)<xs.length:=by omega
   have e0:(0:Int)≤k∧(k:Int)<xs.length:=by omega
   obtain ⟨b,off,rfl,hok,y0,y1,y2,y3⟩:=tm_at (H.out.fut RTm.stays hF.out) hlt;have hnx:Hid (xs.take (k+1)=xs.take k++[xs[k]]):=Hh (List.take_succ_eq_append_getElem hlt);have hmem:xs[k] ∈ xs:=List.getElem_mem hlt;generalize xs[k]=t at *;have HD:=Hh (fun W => atom1_any t W hok);obtain ⟨d,hd⟩:∃ d,t.good=d:=⟨_,rfl⟩
   have hd':=Hh hd;rw [hd] at HD;clear hd;cases d
   ·go_wp2_with fail;refine (HD.out _).mono ?_;rintro e w3 ⟨rfl,f3⟩;go_wp2;go_ret
    exact ⟨k,rfl,by
     have h9:xs.all Tm.good=false:=by
      rw [List.all_eq_false];exact ⟨_,hmem,by rw [hd'.out];decide⟩
     rw [h9];simp,hF.out.trans f3⟩
   ·go_wp2_with fail;refine (HD.out _).mono ?_;rintro e w3 ⟨rfl,f3⟩;have F3:=Hh (hF.out.trans f3)
    have hI2:Hid (∀ x ∈ xs.take (k+1),x.good=true):=Hh fun x hx => by
     rw [hnx.out,List.mem_append] at hx;rcases hx with hx|hx
     ·exact hI.out x hx
     ·rw [List.mem_singleton] at hx;subst hx;exact hd'.out
    clear f3;go_wp2;go_roundw
    case rel => exact ⟨k+1,by omega,by go_num,hI2,F3⟩
    case measure => simp [intOf] <;> omega
  ·obtain rfl:k=xs.length:=by omega
   rw [List.take_length] at hI;go_wp2;go_ret
   exact ⟨-1,rfl,by
    have h9:xs.all Tm.good=true:=List.all_eq_true.2 hI.out;rw [h9];decide,hF.out⟩
set_option maxHeartbeats 1600000 in
theorem contT_any {M:Nat} (A:Option Addr) (c:Nat) (xs:List Tm) (w:World) (h:SlRep 4 M RTm w (.slice A xs.length c) xs) (hM:M≤9223372036854775807) :
    Calls Tryz.prog 353 #[.slice A xs.length c,.func (.func 354) #[] #[]] w fun e w' => e = .returned (.bool (!xs.all Tm.good))∧Fut w w':=by
 have HI:=Hh (idxT_any A c xs w h hM);obtain ⟨b,hb⟩:∃ b,(!xs.all Tm.good)=b:=⟨_,rfl⟩
 rw [hb] at HI ⊢;clear h hb;go_enter Tryz.func353,Tryz.ntmps353;go_wp2_with fail;refine HI.out.mono ?_;rintro e w1 ⟨r,rfl,hr,f1⟩
 by_cases h0:0≤r
 ·obtain rfl:b=true:=by rw [← hr];simp [h0]
  have h0':r≥0:=h0;go_wp2;go_ret;exact ⟨by first|rfl|simp,f1⟩
 ·obtain rfl:b=false:=by rw [← hr];simp [h0]
  have h0':¬ r≥0:=h0;go_wp2;go_ret;exact ⟨by first|rfl|simp,f1⟩
def atomG (p:ByteArray) (a:List Tm):Bool:=nameT p && decide (a.length≤24) && a.all Tm.good
set_option maxHeartbeats 1600000 in
set_option maxRecDepth 100000 in
theorem checkA_any {M:Nat} (p:ByteArray) (A:Option Addr) (c:Nat) (xs:List Tm) (w:World) (h:SlRep 4 M RTm w (.slice A xs.length c) xs) (hM:M≤9223372036854775807) (hp:p.size≤140737488351232) :
    Calls Tryz.prog 338 #[.agg #[.string p,.slice A xs.length c]] w fun e w' => e = .returned (.int .i64 (if atomG p xs=true then 0 else 40))∧Fut w w':=by
 have HN:=Hh (fun W => nameT_any p W hp);have HC:=Hh (fun W (hW:Fut w W) => contT_any A c xs W (h.fut RTm.stays hW) hM);obtain ⟨b,hb⟩:∃ b,atomG p xs=b:=⟨_,rfl⟩
 rw [hb];unfold atomG at hb;obtain ⟨n,hn⟩:∃ n,nameT p=n:=⟨_,rfl⟩
 obtain ⟨al,hal⟩:∃ al,xs.all Tm.good=al:=⟨_,rfl⟩
 rw [hn] at HN hb;rw [hal] at HC hb;clear hn hal h;replace hb:=Hh hb;have hbx:=heap_alloc_new w (.cells #[.string p,.slice A xs.length c] 108);cases n
 ·obtain rfl:b=false:=by rw [← hb.out];simp
  go_enter Tryz.func338,Tryz.ntmps338;go_wp2_with fail;refine (HN.out _).mono ?_;rintro e w1 ⟨rfl,f1⟩;go_wp2_with fail;refine (codeT_any _ _).mono ?_;rintro e w2 ⟨rfl,rfl⟩;go_wp2;go_ret;exact ⟨by first|rfl|simp,(Fut.alloc _ _).trans f1⟩
 ·by_cases hl:xs.length≤24
  ·have hlI:(xs.length:Int)≤24:=by omega
   obtain rfl:b=al:=by rw [← hb.out];simp [hl]
   clear hb;cases b
   all_goals
    go_enter Tryz.func338,Tryz.ntmps338;go_wp2_with fail;refine (HN.out _).mono ?_;rintro e w1 ⟨rfl,f1⟩;have y1:=cell_at (f1.block hbx) 1 (.slice A xs.length c) rfl;have F1:=Hh ((Fut.alloc _ _).trans f1);clear f1;go_wp2_with fail;refine (HC.out _ F1.out).mono ?_;rintro e w2 ⟨rfl,f2⟩;go_wp2_with fail;refine (codeT_any _ _).mono ?_;rintro e w3 ⟨rfl,rfl⟩;go_wp2;go_ret;exact ⟨by first|rfl|simp,F1.out.trans f2⟩
  ·have hlI:¬ (xs.length:Int)≤24:=by omega
   obtain rfl:b=false:=by rw [← hb.out];simp [hl]
   go_enter Tryz.func338,Tryz.ntmps338;go_wp2_with fail;refine (HN.out _).mono ?_;rintro e w1 ⟨rfl,f1⟩;have y1:=cell_at (f1.block hbx) 1 (.slice A xs.length c) rfl;go_wp2_with fail;refine (codeT_any _ _).mono ?_;rintro e w2 ⟨rfl,rfl⟩;go_wp2;go_ret;exact ⟨by first|rfl|simp,(Fut.alloc _ _).trans f1⟩
end Go.Proofs.YtobabnpllokkaaaGreatDoor
namespace Go.Proofs.YtobabnpllokkaaaGreatDoor
open Go.RowKit
theorem ex_kv {n:Nat} {w:World} {x:Ex} {kv:Value} (h:RE n w (x.cs kv) x):∃ A c,kv = .slice A x.kids.length c:=by
 obtain ⟨m,op,t,ks,A,c,_,rfl,hcs,_⟩:=ex_form h;unfold Ex.cs at hcs;injection hcs with _ hcs;injection hcs with _ hcs;injection hcs with _ hcs;injection hcs with _ hcs;injection hcs with _ hcs;injection hcs with hcs _
 exact ⟨A,c,hcs⟩
def Lt.good (x:Lt):Bool :=
 if x.k=1∨x.k=2 then decide (x.r=0) && x.l.empty && x.d.empty && atomG x.p x.a
 else if x.k=3 then decide (x.p.toList=[]) && decide (x.a.length=0) && decide (1≤x.r) && decide (x.r≤6) && deepE 8 x.l && deepE 8 x.d else false
set_option maxHeartbeats 4000000 in
set_option maxRecDepth 100000 in
theorem checkL_any (x:Lt) (A:Option Addr) (c:Nat) (kl kd:Value) (w:World) (h:LtC w x (.slice A x.a.length c) kl kd) :
    Calls Tryz.prog 310 #[.agg (x.cs (.slice A x.a.length c) kl kd).toArray] w fun e w' => e = .returned (.int .i64 (if x.good=true then 0 else 40))∧Fut w w':=by
 obtain ⟨n1,h1⟩:=h.left;obtain ⟨n2,h2⟩:=h.right;obtain ⟨Al,cl,rfl⟩:=ex_kv h1;obtain ⟨Ad,cd,rfl⟩:=ex_kv h2;have EL:=Hh (fun W => emptyT_any x.l Al cl W);have ED:=Hh (fun W => emptyT_any x.d Ad cd W);have XL:=Hh (fun W (hW:Fut w W) => checkE_any x.l Al cl n1 W (RE.stays n1 _ _ _ _ hW h1));have XD:=Hh (fun W (hW:Fut w W) => checkE_any x.d Ad cd n2 W (RE.stays n2 _ _ _ _ hW h2));have CA:=Hh (fun W (hW:Fut w W) => checkA_any x.p A c x.a W (h.args.fut RTm.stays hW) (by omega) h.pw);obtain ⟨b,hb⟩:∃ b,x.good=b:=⟨_,rfl⟩
 rw [hb];clear h h1 h2;unfold Lt.good at hb;unfold Lt.cs;unfold Ex.cs at EL ED XL XD;obtain ⟨el,hel⟩:∃ el,x.l.empty=el:=⟨_,rfl⟩
 obtain ⟨ed,hed⟩:∃ ed,x.d.empty=ed:=⟨_,rfl⟩
 obtain ⟨xl,hxl⟩:∃ xl,deepE 8 x.l=xl:=⟨_,rfl⟩
 obtain ⟨xd,hxd⟩:∃ xd,deepE 8 x.d=xd:=⟨_,rfl⟩
 obtain ⟨ag,hag⟩:∃ ag,atomG x.p x.a=ag:=⟨_,rfl⟩
 rw [hel] at EL hb;rw [hed] at ED hb;rw [hxl] at XL hb;rw [hxd] at XD hb;rw [hag] at CA hb;clear hel hed hxl hxd hag;generalize x.l.kids.length=nl at *;generalize x.d.kids.length=nd at *;generalize x.l.op=lo at *;generalize x.d.op=do' at *;generalize x.l.t=lt at *;generalize x.d.t=dt at *;generalize x.a.length=na at *;generalize x.k=xk at *;generalize x.p=xp at *;generalize x.r=xr at *;replace hb:=Hh hb;have hbx:=heap_alloc_new w (.cells #[.int .i8 xk,.string xp,.slice A na c,.int .i8 xr,.int .i8 lo,.string lt.v,.int .i8 lt.x.k,.int .i64 lt.x.n,.string lt.x.s,.slice Al nl cl,.int .i8 do',.string dt.v,.int .i8 dt.x.k,.int .i64 dt.x.n,.string dt.x.s,.slice Ad nd cd] 120);have FB:=Hh (Fut.alloc w (.cells #[.int .i8 xk,.string xp,.slice A na c,.int .i8 xr,.int .i8 lo,.string lt.v,.int .i8 lt.x.k,.int .i64 lt.x.n,.string lt.x.s,.slice Al nl cl,.int .i8 do',.string dt.v,.int .i8 dt.x.k,.int .i64 dt.x.n,.string dt.x.s,.slice Ad nd cd] 120))
 by_cases hk:xk=1∨xk=2
 ·have hb2:=Hh (show (decide (xr=0) && el && ed && ag)=b by rw [← hb.out,if_pos hk]);clear hb
  by_cases hr:xr=0
  ·subst hr;cases el
   ·obtain rfl:b=false:=by rw [← hb2.out];simp
    rcases hk with rfl|rfl
    all_goals
     go_enter Tryz.func310,Tryz.ntmps310;go_wp2_with fail;refine (EL.out _).mono ?_;rintro e w1 ⟨rfl,f1⟩;go_wp2;go_ret;exact ⟨by first|rfl|simp,FB.out.trans f1⟩
   ·cases ed
    ·obtain rfl:b=false:=by rw [← hb2.out];simp
     rcases hk with rfl|rfl
     all_goals
      go_enter Tryz.func310,Tryz.ntmps310;go_wp2_with fail;refine (EL.out _).mono ?_;rintro e w1 ⟨rfl,f1⟩;have y1:=cell_at (f1.block hbx) 1 (.string xp) rfl;have y2:=cell_at (f1.block hbx) 2 (.slice A na c) rfl;have y4:=cell_at (f1.block hbx) 4 (.int .i8 lo) rfl;have y5:=cell_at (f1.block hbx) 5 (.string lt.v) rfl;have y6:=cell_at (f1.block hbx) 6 (.int .i8 lt.x.k) rfl;have y7:=cell_at (f1.block hbx) 7 (.int .i64 lt.x.n) rfl;have y8:=cell_at (f1.block hbx) 8 (.string lt.x.s) rfl;have y9:=cell_at (f1.block hbx) 9 (.slice Al nl cl) rfl;have y10:=cell_at (f1.block hbx) 10 (.int .i8 do') rfl;have y11:=cell_at (f1.block hbx) 11 (.string dt.v) rfl;have y12:=cell_at (f1.block hbx) 12 (.int .i8 dt.x.k) rfl;have y13:=cell_at (f1.block hbx) 13 (.int .i64 dt.x.n) rfl;have y14:=cell_at (f1.block hbx) 14 (.string dt.x.s) rfl;have y15:=cell_at (f1.block hbx) 15 (.slice Ad nd cd) rfl;go_wp2_with fail;refine (ED.out _).mono ?_;rintro e w2 ⟨rfl,f2⟩;go_wp2;go_ret;exact ⟨by first|rfl|simp,(FB.out.trans f1).trans f2⟩
    ·obtain rfl:b=ag:=by rw [← hb2.out];simp
     clear hb2;rcases hk with rfl|rfl <;> cases b
     all_goals
      go_enter Tryz.func310,Tryz.ntmps310;go_wp2_with fail;refine (EL.out _).mono ?_;rintro e w1 ⟨rfl,f1⟩;have y1:=cell_at (f1.block hbx) 1 (.string xp) rfl;have y2:=cell_at (f1.block hbx) 2 (.slice A na c) rfl;have y4:=cell_at (f1.block hbx) 4 (.int .i8 lo) rfl;have y5:=cell_at (f1.block hbx) 5 (.string lt.v) rfl;have y6:=cell_at (f1.block hbx) 6 (.int .i8 lt.x.k) rfl;have y7:=cell_at (f1.block hbx) 7 (.int .i64 lt.x.n) rfl;have y8:=cell_at (f1.block hbx) 8 (.string lt.x.s) rfl;have y9:=cell_at (f1.block hbx) 9 (.slice Al nl cl) rfl;have y10:=cell_at (f1.block hbx) 10 (.int .i8 do') rfl;have y11:=cell_at (f1.block hbx) 11 (.string dt.v) rfl;have y12:=cell_at (f1.block hbx) 12 (.int .i8 dt.x.k) rfl;have y13:=cell_at (f1.block hbx) 13 (.int .i64 dt.x.n) rfl;have y14:=cell_at (f1.block hbx) 14 (.string dt.x.s) rfl;have y15:=cell_at (f1.block hbx) 15 (.slice Ad nd cd) rfl;go_wp2_with fail;refine (ED.out _).mono ?_;rintro e w2 ⟨rfl,f2⟩;have u1:=cell_at ((f1.trans f2).block hbx) 1 (.string xp) rfl;have u2:=cell_at ((f1.trans f2).block hbx) 2 (.slice A na c) rfl;have F2:=Hh ((FB.out.trans f1).trans f2);go_wp2_with fail;refine (CA.out _ F2.out).mono ?_;rintro e w3 ⟨rfl,f3⟩;go_wp2;go_ret;exact ⟨by first|rfl|simp,F2.out.trans f3⟩
  ·obtain rfl:b=false:=by rw [← hb2.out];simp [hr]
   have hrb:(xr == 0)=false:=by rw [beq_eq_false_iff_ne];exact hr
   rcases hk with rfl|rfl
   all_goals
    go_enter Tryz.func310,Tryz.ntmps310;go_wp2;go_ret;exact ⟨by first|rfl|simp,FB.out⟩
 ·have hk1:¬ xk=1:=fun h => hk (.inl h);have hk2:¬ xk=2:=fun h => hk (.inr h)
  by_cases hk3:xk=3
  ·subst hk3;have hb2:=Hh (show (decide (xp.toList=[]) && decide (na=0) && decide (1≤xr) && decide (xr≤6) && xl && xd)=b by rw [← hb.out,if_neg hk,if_pos rfl]);clear hb hk hk1 hk2
   by_cases hp:xp.toList=[]
   ·by_cases hn:na=0
    ·subst hn
     by_cases hr1:1≤xr
     ·have hr1':¬ xr<1:=by omega
      by_cases hr6:xr≤6
      ·have hr6':¬ xr > 6:=by omega
       cases xl
       ·obtain rfl:b=false:=by rw [← hb2.out];simp
        go_enter Tryz.func310,Tryz.ntmps310;go_wp2_with fail;refine (XL.out _ FB.out).mono ?_;rintro e w1 ⟨rfl,f1⟩;go_wp2;go_ret;exact ⟨by first|rfl|simp,FB.out.trans f1⟩
       ·obtain rfl:b=xd:=by rw [← hb2.out];simp [hp,hr1,hr6]
        clear hb2;cases b
        all_goals
         go_enter Tryz.func310,Tryz.ntmps310;go_wp2_with fail;refine (XL.out _ FB.out).mono ?_;rintro e w1 ⟨rfl,f1⟩;have y10:=cell_at (f1.block hbx) 10 (.int .i8 do') rfl;have y11:=cell_at (f1.block hbx) 11 (.string dt.v) rfl;have y12:=cell_at (f1.block hbx) 12 (.int .i8 dt.x.k) rfl;have y13:=cell_at (f1.block hbx) 13 (.int .i64 dt.x.n) rfl;have y14:=cell_at (f1.block hbx) 14 (.string dt.x.s) rfl;have y15:=cell_at (f1.block hbx) 15 (.slice Ad nd cd) rfl;have F1:=Hh (FB.out.trans f1);go_wp2_with fail;refine (XD.out _ F1.out).mono ?_;rintro e w2 ⟨rfl,f2⟩;go_wp2;go_ret;exact ⟨by first|rfl|simp,F1.out.trans f2⟩
      ·have hr6':xr > 6:=by omega
       obtain rfl:b=false:=by rw [← hb2.out];simp [hr6]
       go_enter Tryz.func310,Tryz.ntmps310;go_wp2;go_ret;exact ⟨by first|rfl|simp,FB.out⟩
     ·have hr1':xr<1:=by omega
      obtain rfl:b=false:=by rw [← hb2.out];simp [hr1]
      go_enter Tryz.func310,Tryz.ntmps310;go_wp2;go_ret;exact ⟨by first|rfl|simp,FB.out⟩
    ·obtain rfl:b=false:=by rw [← hb2.out];simp [hn]
     have hnI:(na:Int) > 0:=by omega
     have hnN:0<na:=by omega
     go_enter Tryz.func310,Tryz.ntmps310;go_wp2;go_ret;exact ⟨by first|rfl|simp,FB.out⟩
   ·obtain rfl:b=false:=by rw [← hb2.out];simp [hp]
    have hpb:(xp.toList == [])=false:=by rw [beq_eq_false_iff_ne];exact hp
    go_enter Tryz.func310,Tryz.ntmps310;go_wp2;go_ret;exact ⟨by first|rfl|simp,FB.out⟩
  ·obtain rfl:b=false:=by rw [← hb.out,if_neg hk,if_neg hk3]
   go_enter Tryz.func310,Tryz.ntmps310;go_wp2;go_ret;exact ⟨by first|rfl|simp,FB.out⟩
structure TotC {α:Type} (c:α→α→Int):Prop where
 eq0:∀ x y,c x y=0↔x=y
 neg:∀ x y,c y x = - c x y
 trans:∀ x y z,c x y<0→c y z<0→c x z<0
section
variable {α:Type} {c:α→α→Int}
def Up (c:α→α→Int) (l:List α):Prop:=l.Pairwise fun x y => c x y<0
def UpOf (c:α→α→Int) (l xs:List α):Prop:=Up c xs∧∀ x,x ∈ xs↔x ∈ l
theorem TotC.irr (h:TotC c) (x:α):¬ c x x<0:=by have:=(h.eq0 x x).2 rfl;omega
theorem Up.uniq (h:TotC c):∀ {l m:List α},Up c l→Up c m→(∀ x,x ∈ l↔x ∈ m)→l=m
 | [],[],_,_,_ => rfl
 | [],y :: m,_,_,e => by have:=(e y).2 (by simp);simp at this
 | x :: l,[],_,_,e => by have:=(e x).1 (by simp);simp at this
 | x :: l,y :: m,hl,hm,e => by
  have hl':=List.pairwise_cons.1 hl;have hm':=List.pairwise_cons.1 hm
  have hxy:x=y:=by
   have h1:=(e x).1 (by simp);have h2:=(e y).2 (by simp);rcases List.mem_cons.1 h1 with h1|h1
   ·exact h1
   ·rcases List.mem_cons.1 h2 with h2|h2
    ·exact h2.symm
    ·have a:=hm'.1 x h1;have b:=hl'.1 y h2;have:=h.neg x y;omega
  subst hxy;rw [Up.uniq h hl'.2 hm'.2 fun z => ?_];have hz:=e z
  constructor
  ·intro hz1;rcases List.mem_cons.1 (hz.1 (List.mem_cons_of_mem _ hz1)) with e1|e1
   ·subst e1;exact absurd (hl'.1 z hz1) (h.irr z)
   ·exact e1
  ·intro hz1;rcases List.mem_cons.1 (hz.2 (List.mem_cons_of_mem _ hz1)) with e1|e1
   ·subst e1;exact absurd (hm'.1 z hz1) (h.irr z)
   ·exact e1
def insU (c:α→α→Int) (x:α):List α→List α
 | [] => [x]
 | y :: r => if c x y<0 then x :: y :: r else if c x y=0 then y :: r else y :: insU c x r
def sortU (c:α→α→Int) (l:List α):List α:=l.foldr (insU c) []
theorem insU_mem (h:TotC c) (x z:α):∀ l:List α,z ∈ insU c x l↔z=x∨z ∈ l
 | [] => by simp [insU]
 | y :: r => by
  unfold insU
  split
  ·simp
  ·split
   ·rename_i h1 h2;have:=(h.eq0 x y).1 h2;subst this;simp
   ·rw [List.mem_cons,insU_mem h x z r,List.mem_cons]
    constructor
    ·rintro (h|h|h) <;> simp [h]
    ·rintro (h|h|h) <;> simp [h]
theorem insU_up (h:TotC c) (x:α):∀ l:List α,Up c l→Up c (insU c x l)
 | [],_ => by simp [insU,Up]
 | y :: r,hl => by
  have hl':=List.pairwise_cons.1 hl;unfold insU
  split
  ·rename_i h1;refine List.pairwise_cons.2 ⟨fun z hz => ?_,hl⟩;rcases List.mem_cons.1 hz with rfl|hz
   ·exact h1
   ·exact h.trans _ _ _ h1 (hl'.1 z hz)
  ·split
   ·exact hl
   ·rename_i h1 h2;refine List.pairwise_cons.2 ⟨fun z hz => ?_,insU_up h x r hl'.2⟩;rcases (insU_mem h x z r).1 hz with rfl|hz
    ·have:=h.neg y z;omega
    ·exact hl'.1 z hz
theorem sortU_spec (h:TotC c):∀ l:List α,UpOf c l (sortU c l)
 | [] => ⟨by simp [sortU,Up],by simp [sortU]⟩
 | x :: l => by
  obtain ⟨h1,h2⟩:=sortU_spec h l;refine ⟨insU_up h x _ h1,fun z => ?_⟩;show z ∈ insU c x (sortU c l)↔_;rw [insU_mem h,h2,List.mem_cons]
def Sorted (c:α→α→Int) (l:List α):Prop:=l.Pairwise fun x y => ¬ c y x<0
structure Join (c:α→α→Int) (a b out ra rb:List α):Prop where
 up:Up c out
 ua:Up c ra
 ub:Up c rb
 la:∀ x ∈ out,∀ y ∈ ra,c x y<0
 lb:∀ x ∈ out,∀ y ∈ rb,c x y<0
 mem:∀ x,(x ∈ out∨x ∈ ra∨x ∈ rb)↔(x ∈ a∨x ∈ b)
end
section
variable {α:Type} [DecidableEq α]
end
theorem list_lt:∀ a b:List UInt8,a<b↔Lib.compareBytes a b<0
 | [],[] => by simp [Lib.compareBytes]
 | [],_ :: _ => by simp [Lib.compareBytes]
 | _ :: _,[] => by simp [Lib.compareBytes]
 | x :: a,y :: b => by
  rw [List.cons_lt_cons_iff,Lib.compareBytes]
  by_cases h1:x<y
  ·simp [h1]
  ·rw [if_neg h1]
   by_cases h2:y<x
   ·rw [if_pos h2];have hne:x≠y:=fun e => by subst e;exact absurd h2 (UInt8.lt_irrefl _)
    simp [h1,hne]
   ·rw [if_neg h2]
    have e:x=y:=by
     have h3:=UInt8.not_lt.1 h1;have h4:=UInt8.not_lt.1 h2;exact UInt8.le_antisymm h4 h3
    subst e;rw [list_lt a b];simp
def bytesOf' (l:List UInt8):ByteArray:=⟨l.toArray⟩
theorem merge_names {ss:List (List UInt8)} {N:List ByteArray} (hp:ss.Perm (N.map (·.data.toList))) (hn:N.Nodup):(ss.mergeSort (fun x y => decide (x≤y))).map bytesOf'=sortU cmpS N:=by
 have hT:TotC cmpS:=⟨ordS.zero,ordS.swap,fun x y z h1 h2 => ordS.lt h1 (by omega)⟩
 have hperm:(ss.mergeSort (fun x y => decide (x≤y))).Perm (N.map (·.data.toList)):=(List.mergeSort_perm _ _).trans hp;have hid:∀ b:ByteArray,bytesOf' b.data.toList=b:=fun b => rfl;have hinj:∀ a b:ByteArray,a.data.toList=b.data.toList→a=b:=fun a b h => ByteArray.ext (Array.toList_inj.1 h)
 have hnd:(ss.mergeSort (fun x y => decide (x≤y))).Nodup:=by
  refine hperm.nodup_iff.2 ?_;exact (List.pairwise_map.2 (hn.imp fun h e => h (hinj _ _ e)))
 have hst:(ss.mergeSort (fun x y => decide (x≤y))).Pairwise (fun x y => (decide (x≤y))=true):=List.pairwise_mergeSort (fun a b c h1 h2 => by
     have h1:=of_decide_eq_true h1;have h2:=of_decide_eq_true h2;exact decide_eq_true (List.le_trans h1 h2)) (fun a b => by
     rcases List.le_total a b with h|h <;> simp [h]) _
 refine Up.uniq hT ?_ (sortU_spec hT N).1 fun x => ?_
 ·refine List.pairwise_map.2 ((hst.and hnd).imp fun {x y} h => ?_);have h1:x≤y:=of_decide_eq_true h.1
  have h2:x<y:=by
   rcases List.le_iff_lt_or_eq.1 h1 with h3|h3
   ·exact h3
   ·exact absurd h3 h.2
  exact (list_lt x y).1 h2
 ·rw [(sortU_spec hT N).2 x,List.mem_map]
  constructor
  ·rintro ⟨l,hl,rfl⟩;obtain ⟨b,hb,rfl⟩:=List.mem_map.1 (hperm.mem_iff.1 hl);exact hb
  ·intro hx;exact ⟨x.data.toList,hperm.mem_iff.2 (List.mem_map.2 ⟨x,hx,rfl⟩),rfl⟩
end Go.Proofs.YtobabnpllokkaaaGreatDoor
namespace Go.Proofs.YtobabnpllokkaaaGreatDoor
open Go.RowKit Go.WideMaps Go.Maps
open Go.ChangeMaps (setBlock heap_setBlock_same heap_setBlock_other)
structure KeyOn {α:Type} (P:Program) (k:TypeId) (kv:α→Value) (ok:α→Prop):Prop where
 law:Keyed P k
 lit:∀ x,ok x→∃ l,keyOf P k (kv x)=some l
 inj:∀ x y,kv x=kv y→x=y
def MapE {α:Type} (kv:α→Value) (w:World) (b:Nat) (l:List (α×Value)):Prop :=
 ∃ es clock,w.heap[b]?=some (.map es clock)∧MapKept.Stamped es clock∧es.toList.map (fun e => (e.key,e.val))=l.map (fun p => (kv p.1,p.2))
def getE {α:Type} [DecidableEq α] (l:List (α×Value)) (x:α):Option Value:=(l.find? (fun p => decide (p.1=x))).map (·.2)
theorem getE_none {α:Type} [DecidableEq α] {l:List (α×Value)} {x:α} (h:∀ p ∈ l,p.1≠x):getE l x=none:=by
 unfold getE;rw [List.find?_eq_none.2 (fun p hp => by simpa using h p hp)];rfl
theorem nodup_of_map {α β:Type} {f:α→β}:∀ {l:List α},(l.map f).Nodup→l.Nodup
 | [],_ => List.nodup_nil
 | a :: l,h => by
  rw [List.map_cons,List.nodup_cons] at h;exact List.nodup_cons.2 ⟨fun ha => h.1 (List.mem_map_of_mem ha),nodup_of_map h.2⟩
theorem getE_at {α:Type} [DecidableEq α]:∀ {l:List (α×Value)} {j:Nat} {x:α} {v:Value},(l.map (·.1)).Nodup→l[j]?=some (x,v)→getE l x=some v
 | [],j,x,v,_,h => by simp at h
 | (y,u) :: l,0,x,v,hn,h => by
  simp only [List.getElem?_cons_zero,Option.some.injEq,Prod.mk.injEq] at h;obtain ⟨rfl,rfl⟩:=h;simp [getE]
 | (y,u) :: l,j+1,x,v,hn,h => by
  rw [List.getElem?_cons_succ] at h;rw [List.map_cons,List.nodup_cons] at hn;have hne:y≠x:=fun e => hn.1 (by rw [e];exact List.mem_map.2 ⟨(x,v),List.mem_of_getElem? h,rfl⟩);have:=getE_at hn.2 h;unfold getE at this ⊢;rw [List.find?_cons_of_neg (by simpa using hne)];exact this
section
variable {α:Type} {P:Program} {k t e:TypeId} {kv:α→Value} {ok:α→Prop} {w w':World} {b:Nat} {l:List (α×Value)}
theorem MapE.new (w:World):MapE kv (w.alloc (.map #[] 0)) w.heap.size []:=⟨#[],0,heap_alloc_new w _,MapKept.stamped_empty 0,rfl⟩
theorem MapE.lt (h:MapE kv w b l):b<w.heap.size:=by
 obtain ⟨es,c,h1,_⟩:=h;exact (Array.getElem?_eq_some_iff.1 h1).1
theorem MapE.kept (h:MapE kv w b l) (hs:w'.heap[b]?=w.heap[b]?):MapE kv w' b l:=by
 obtain ⟨es,c,h1,h2⟩:=h;exact ⟨es,c,hs.trans h1,h2⟩
theorem MapE.fut (h:MapE kv w b l) (hf:Fut w w'):MapE kv w' b l:=by
 obtain ⟨es,c,h1,h2⟩:=h;exact ⟨es,c,hf.block h1,h2⟩
theorem MapE.nodup (h:MapE kv w b l):(l.map (·.1)).Nodup:=by
 obtain ⟨es,c,_,h2,h3⟩:=h
 have h4:es.toList.map (·.key)=(l.map (·.1)).map kv:=by
  have:=congrArg (List.map Prod.fst) h3;simpa [List.map_map,Function.comp_def] using this
 have h5:=h2.2.2;rw [h4] at h5;exact nodup_of_map h5
theorem MapE.find (K:KeyOn P k kv ok) (hok:∀ p ∈ l,ok p.1) {es:Array MapEntry} (h3:es.toList.map (fun e => (e.key,e.val))=l.map (fun p => (kv p.1,p.2))) {x:α} (hx:ok x) :
    ((∀ p ∈ l,p.1≠x)∧(∀ y ∈ es.toList,y.key≠kv x)∧(Instr.findKey k (kv x) es.toList).run P w = .ok none w) ∨
    ∃ j v y,l[j]?=some (x,v)∧es.toList[j]?=some y∧y.key=kv x∧y.val=v∧(Instr.findKey k (kv x) es.toList).run P w = .ok (some (j,v)) w:=by
 obtain ⟨lx,hlx⟩:=K.lit x hx
 have at':∀ j:Nat,(es.toList[j]?).map (fun e => (e.key,e.val))=(l[j]?).map (fun p => (kv p.1,p.2)):=fun j => by
  have:=congrArg (fun a => a[j]?) h3;simpa using this
 have key:∀ y ∈ es.toList,∃ p ∈ l,y.key=kv p.1∧y.val=p.2:=fun y hy => by
  have:(y.key,y.val) ∈ es.toList.map (fun e => (e.key,e.val)):=List.mem_map.2 ⟨y,hy,rfl⟩;rw [h3] at this;obtain ⟨p,hp,he⟩:=List.mem_map.1 this;injection he with e1 e2
  exact ⟨p,hp,e1.symm,e2.symm⟩
 rcases K.law.find w hlx es.toList (fun y hy => by
  obtain ⟨p,hp,e1,_⟩:=key y hy;rw [e1];exact K.lit _ (hok p hp)) with ⟨h4,h5⟩|⟨j,y,h4,h5,h6⟩
 ·refine .inl ⟨fun p hp he => ?_,h5,h4⟩;have:(kv p.1,p.2) ∈ es.toList.map (fun e => (e.key,e.val)):=by rw [h3];exact List.mem_map.2 ⟨p,hp,rfl⟩
  obtain ⟨y,hy,e1⟩:=List.mem_map.1 this;injection e1 with e1 e2
  exact h5 y hy (by rw [e1,he])
 ·have h7:=at' j;rw [h5] at h7;cases hl:l[j]? with
  | none => rw [hl] at h7;cases h7
  | some p =>
   rw [hl] at h7;simp only [Option.map_some,Option.some.injEq,Prod.mk.injEq] at h7;have e1:p.1=x:=K.inj _ _ (h7.1.symm.trans h6);obtain ⟨p1,p2⟩:=p;simp only at e1 h7;subst e1;exact .inr ⟨j,p2,y,hl,h5,h6,h7.2,by rw [h4,h7.2]⟩
theorem MapE.look [DecidableEq α] (h:MapE kv w b l) (K:KeyOn P k kv ok) (hok:∀ p ∈ l,ok p.1) (ht:P.underlying t=some (.map k e)) {z:Value} (hz:∀ w,(zeroValue e).run P w = .ok z w) {x:α} (hx:ok x) :
    (Instr.lookup t (.map (some b)) (kv x) false).run P w = .ok ((getE l x).getD z) w∧(Instr.lookup t (.map (some b)) (kv x) true).run P w = .ok (.tuple #[(getE l x).getD z,.bool (getE l x).isSome]) w:=by
 have hnd:=h.nodup;obtain ⟨es,c,hb,hst,h3⟩:=h;obtain ⟨lx,hlx⟩:=K.lit x hx;rcases MapE.find (w:=w) K hok h3 hx with ⟨h4,_,h5⟩|⟨j,v,y,h4,_,_,_,h5⟩
 ·rw [getE_none h4]
  constructor <;> simp [Instr.lookup,run_underlying ht,MapKept.run_getObj_map hb,K.law.check w _ hlx,h5,hz,Result.andThen]
 ·rw [getE_at hnd h4]
  constructor <;> simp [Instr.lookup,run_underlying ht,MapKept.run_getObj_map hb,K.law.check w _ hlx,h5,Result.andThen]
theorem MapE.push (h:MapE kv w b l) (K:KeyOn P k kv ok) (hok:∀ p ∈ l,ok p.1) (ht:P.underlying t=some (.map k e)) {x:α} (hx:ok x) (hn:∀ p ∈ l,p.1≠x) (v:Value) :
    ∃ w',(Instr.mapUpdate t (.map (some b)) (kv x) v).run P w = .ok () w'∧MapE kv w' b (l++[(x,v)])∧w.grownBy w' (some b):=by
 obtain ⟨es,c,hb,hst,h3⟩:=h;obtain ⟨lx,hlx⟩:=K.lit x hx;rcases MapE.find (w:=w) K hok h3 hx with ⟨_,h5,h4⟩|⟨j,v',y,h4,_⟩
 ·refine ⟨setBlock w b (.map (es.push { key:=kv x,val:=v,born:=c }) (c+1)),?_,⟨_,_,heap_setBlock_same hb _,MapKept.stamped_push hst h5,?_⟩,⟨rfl,rfl,rfl,by simp [setBlock],fun i _ hi => heap_setBlock_other hb _ (fun e => hi (by rw [e]))⟩⟩
  ·simp [Instr.mapUpdate,run_underlying ht,MapKept.run_getObj_map hb,K.law.check w _ hlx,h4,MapKept.run_setObj_map _ hb,Result.andThen,setBlock]
  ·rw [Array.toList_push,List.map_append,List.map_append,h3];rfl
 ·exact absurd rfl (hn _ (List.mem_of_getElem? h4))
theorem map_modify {β γ:Type} (f:β→γ) (g:β→β) (g':γ→γ) (hg:∀ x,f (g x)=g' (f x)):∀ (l:List β) (i:Nat),(l.modify i g).map f=(l.map f).modify i g'
 | [],i => by cases i <;> rfl
 | a :: l,0 => by simp [hg]
 | a :: l,i+1 => by simp [map_modify f g g' hg l i]
theorem MapE.put (h:MapE kv w b l) (K:KeyOn P k kv ok) (hok:∀ p ∈ l,ok p.1) (ht:P.underlying t=some (.map k e)) {x:α} (hx:ok x) {j:Nat} {u:Value} (hj:l[j]?=some (x,u)) (v:Value) :
    ∃ w',(Instr.mapUpdate t (.map (some b)) (kv x) v).run P w = .ok () w'∧MapE kv w' b (l.set j (x,v))∧w.grownBy w' (some b):=by
 have hnd:=h.nodup;obtain ⟨es,c,hb,hst,h3⟩:=h;obtain ⟨lx,hlx⟩:=K.lit x hx;rcases MapE.find (w:=w) K hok h3 hx with ⟨h4,_⟩|⟨i,v',y,h4,h5,h6,h7,h8⟩
 ·exact absurd rfl (h4 _ (List.mem_of_getElem? hj))
 have hij:i=j:=by
  have h9:=List.getElem?_eq_some_iff.1 h4;have h10:=List.getElem?_eq_some_iff.1 hj;refine (List.getElem_inj (xs:=l.map (·.1)) (h₀:=by rw [List.length_map];exact h9.1) (h₁:=by rw [List.length_map];exact h10.1) hnd).1 ?_;rw [List.getElem_map,List.getElem_map,h9.2,h10.2]
 subst hij;have h5':es[i]?=some y:=by rw [← Array.getElem?_toList];exact h5
 refine ⟨setBlock w b (.map (es.modify i fun e => { e with key:=kv x,val:=v }) c),?_,⟨_,_,heap_setBlock_same hb _,MapKept.stamped_modify hst i _ (fun _ _ => rfl) (fun e _ he => by
  rw [h5'] at he;obtain rfl:=Option.some.inj he;exact h6.symm),?_⟩,⟨rfl,rfl,rfl,by simp [setBlock],fun i _ hi => heap_setBlock_other hb _ (fun e => hi (by rw [e]))⟩⟩
 ·have hs:=K.law.stays w hlx;simp [Instr.mapUpdate,run_underlying ht,MapKept.run_getObj_map hb,K.law.check w _ hlx,h8,h5',h6,hs,MapKept.run_setObj_map _ hb,Result.andThen,setBlock]
 ·haveI:Inhabited (Value×Value):=⟨(v,v)⟩
  rw [Array.toList_modify,map_modify (fun e:MapEntry => (e.key,e.val)) _ (fun _ => (kv x,v)) (fun _ => rfl),h3,List.modify_eq_set,List.map_set]
theorem MapE.len (h:MapE kv w b l) (ht:P.underlying t=some (.map k e)) (ty:TypeId):(Builtin.len_ #[t] ty #[.map (some b)]).run P w = .ok (.int .i64 l.length) w:=by
 obtain ⟨es,c,hb,_,h3⟩:=h
 have:es.size=l.length:=by
  have:=congrArg List.length h3;simpa using this
 simp [Builtin.len_,run_underlying ht,MapKept.run_getObj_map hb,Result.andThen,this,goInt]
end
def strV (s:ByteArray):Value:=.string s
theorem keyStr:KeyOn Tryz.prog 9 strV (fun s => s.size≤maxLen) where
 law:=string_keyed Tryz.underlying9
 lit x hx:=⟨.string x.data.toList,by simp [keyOf,Tryz.underlying9,strV,mapKey,hx]⟩
 inj x y h:=by injection h
end Go.Proofs.YtobabnpllokkaaaGreatDoor
namespace Go.Proofs
open Go.Shelf
def Tryz.sorted98_ren:Go.Shelf.Ren:=⟨fun|6 => 98|8 => 199|9 => 210|11 => 253|13 => 255|12 => 266|23 => 288|24 => 289|14 => 297|15 => 298|16 => 299|17 => 300|18 => 301|19 => 302|20 => 303|21 => 304|22 => 305|25 => 329|26 => 315|27 => 316|28 => 330|29 => 331|30 => 332|31 => 351|n => n,fun|26 => 9|28 => 137|24 => 76|0 => 0|3 => 3|37 => 362|48 => 253|50 => 396|4 => 4|40 => 389|39 => 388|45 => 153|5 => 5|9 => 9|51 => 419|55 => 423|57 => 440|58 => 441|33 => 315|n => n,fun|n => n⟩
theorem Tryz.sorted98:Go.Proofs.SlLaysZ.n6 Tryz.prog Tryz.sorted98_ren:={
 mixed:=by kernel_rfl
 f6:=⟨Tryz.f98.name,by decide,Tryz.func98.trans (congrArg some (by kernel_rfl))⟩
 f8:=⟨Tryz.f199.name,by decide,Tryz.func199.trans (congrArg some (by kernel_rfl))⟩
 f11:=⟨Tryz.f253.name,by decide,Tryz.func253.trans (congrArg some (by kernel_rfl))⟩
 t0:=Tryz.underlying0
 a0:=Tryz.isAgg0
 z0:=Tryz.sizeOf0
 v0:=Tryz.zeroValue0
 t24:=Tryz.underlying76
 a24:=Tryz.isAgg76
 z24:=Tryz.sizeOf76
 v24:=Tryz.zeroValue76
 t26:=Tryz.underlying9
 a26:=Tryz.isAgg9
 z26:=Tryz.sizeOf9
 v26:=Tryz.zeroValue9
 t28:=Tryz.underlying137
 a28:=Tryz.isAgg137
 z28:=Tryz.sizeOf137
 v28:=Tryz.zeroValue137
 i26:=by kernel_rfl }
def Tryz.sort210_ren:Go.Shelf.Ren:=⟨fun|6 => 210|8 => 255|9 => 266|19 => 288|20 => 289|21 => 297|22 => 298|23 => 299|24 => 300|25 => 301|26 => 302|27 => 303|28 => 304|29 => 305|36 => 329|31 => 315|32 => 316|37 => 330|38 => 331|39 => 332|41 => 351|n => n,fun|27 => 76|29 => 9|3 => 3|32 => 362|26 => 76|0 => 0|44 => 253|46 => 396|4 => 4|36 => 389|35 => 388|41 => 153|5 => 5|9 => 9|53 => 419|57 => 423|63 => 440|64 => 441|n => n,fun|n => n⟩
theorem Tryz.sort210:Go.Proofs.SlLaysM.n6 Tryz.prog Tryz.sort210_ren:={
 mixed:=by kernel_rfl
 f6:=⟨Tryz.f210.name,by decide,Tryz.func210.trans (congrArg some (by kernel_rfl))⟩
 f8:=Tryz.func255.trans (congrArg some (by kernel_rfl))
 f9:=⟨Tryz.f266.name,by decide,Tryz.func266.trans (congrArg some (by kernel_rfl))⟩
 f19:=Tryz.func288.trans (congrArg some (by kernel_rfl))
 f20:=Tryz.func289.trans (congrArg some (by kernel_rfl))
 f21:=⟨Tryz.f297.name,by decide,Tryz.func297.trans (congrArg some (by kernel_rfl))⟩
 f22:=⟨Tryz.f298.name,by decide,Tryz.func298.trans (congrArg some (by kernel_rfl))⟩
 f23:=⟨Tryz.f299.name,by decide,Tryz.func299.trans (congrArg some (by kernel_rfl))⟩
 f24:=⟨Tryz.f300.name,by decide,Tryz.func300.trans (congrArg some (by kernel_rfl))⟩
 f25:=⟨Tryz.f301.name,by decide,Tryz.func301.trans (congrArg some (by kernel_rfl))⟩
 f26:=⟨Tryz.f302.name,by decide,Tryz.func302.trans (congrArg some (by kernel_rfl))⟩
 f27:=⟨Tryz.f303.name,by decide,Tryz.func303.trans (congrArg some (by kernel_rfl))⟩
 f28:=⟨Tryz.f304.name,by decide,Tryz.func304.trans (congrArg some (by kernel_rfl))⟩
 f29:=⟨Tryz.f305.name,by decide,Tryz.func305.trans (congrArg some (by kernel_rfl))⟩
 f31:=Tryz.func315.trans (congrArg some (by kernel_rfl))
 f32:=Tryz.func316.trans (congrArg some (by kernel_rfl))
 f36:=⟨Tryz.f329.name,by decide,Tryz.func329.trans (congrArg some (by kernel_rfl))⟩
 f37:=⟨Tryz.f330.name,by decide,Tryz.func330.trans (congrArg some (by kernel_rfl))⟩
 f38:=⟨Tryz.f331.name,by decide,Tryz.func331.trans (congrArg some (by kernel_rfl))⟩
 f39:=⟨Tryz.f332.name,by decide,Tryz.func332.trans (congrArg some (by kernel_rfl))⟩
 f41:=⟨Tryz.f351.name,by decide,Tryz.func351.trans (congrArg some (by kernel_rfl))⟩
 t0:=Tryz.underlying0
 a0:=Tryz.isAgg0
 z0:=Tryz.sizeOf0
 v0:=Tryz.zeroValue0
 t3:=Tryz.underlying3
 a3:=Tryz.isAgg3
 z3:=Tryz.sizeOf3
 v3:=Tryz.zeroValue3
 t4:=Tryz.underlying4
 a4:=Tryz.isAgg4
 z4:=Tryz.sizeOf4
 v4:=Tryz.zeroValue4
 t5:=Tryz.underlying5
 a5:=Tryz.isAgg5
 z5:=Tryz.sizeOf5
 v5:=Tryz.zeroValue5
 t9:=Tryz.underlying9
 a9:=Tryz.isAgg9
 z9:=Tryz.sizeOf9
 v9:=Tryz.zeroValue9
 t26:=Tryz.underlying76
 a26:=Tryz.isAgg76
 z26:=Tryz.sizeOf76
 v26:=Tryz.zeroValue76
 t27:=Tryz.underlying76
 a27:=Tryz.isAgg76
 z27:=Tryz.sizeOf76
 v27:=Tryz.zeroValue76
 t29:=Tryz.underlying9
 a29:=Tryz.isAgg9
 z29:=Tryz.sizeOf9
 v29:=Tryz.zeroValue9
 t32:=Tryz.underlying362
 a32:=Tryz.isAgg362
 z32:=Tryz.sizeOf362
 v32:=Tryz.zeroValue362
 t35:=Tryz.underlying388
 a35:=Tryz.isAgg388
 z35:=Tryz.sizeOf388
 v35:=Tryz.zeroValue388
 t36:=Tryz.underlying389
 a36:=Tryz.isAgg389
 z36:=Tryz.sizeOf389
 v36:=Tryz.zeroValue389
 t41:=Tryz.underlying153
 a41:=Tryz.isAgg153
 z41:=Tryz.sizeOf153
 v41:=Tryz.zeroValue153
 t44:=Tryz.underlying253
 a44:=Tryz.isAgg253
 z44:=Tryz.sizeOf253
 v44:=Tryz.zeroValue253
 t46:=Tryz.underlying396
 a46:=Tryz.isAgg396
 z46:=Tryz.sizeOf396
 v46:=Tryz.zeroValue396
 t53:=Tryz.underlying419
 a53:=Tryz.isAgg419
 z53:=Tryz.sizeOf419
 v53:=Tryz.zeroValue419
 t57:=Tryz.underlying423
 a57:=Tryz.isAgg423
 z57:=Tryz.sizeOf423
 v57:=Tryz.zeroValue423
 t63:=Tryz.underlying440
 a63:=Tryz.isAgg440
 z63:=Tryz.sizeOf440
 v63:=Tryz.zeroValue440
 t64:=Tryz.underlying441
 a64:=Tryz.isAgg441
 z64:=Tryz.sizeOf441
 v64:=Tryz.zeroValue441 }
def Tryz.keys212_ren:Go.Shelf.Ren:=⟨fun|7 => 212|10 => 267|n => n,fun|23 => 95|26 => 9|3 => 76|28 => 137|0 => 0|27 => 136|33 => 315|4 => 4|n => n,fun|n => n⟩
theorem Tryz.keys212:Go.Proofs.SlLaysZ.n7 Tryz.prog Tryz.keys212_ren:={
 mixed:=by kernel_rfl
 f7:=⟨Tryz.f212.name,by decide,Tryz.func212.trans (congrArg some (by kernel_rfl))⟩
 f10:=⟨Tryz.f267.name,by decide,Tryz.func267.trans (congrArg some (by kernel_rfl))⟩
 t0:=Tryz.underlying0
 a0:=Tryz.isAgg0
 z0:=Tryz.sizeOf0
 v0:=Tryz.zeroValue0
 t4:=Tryz.underlying4
 a4:=Tryz.isAgg4
 z4:=Tryz.sizeOf4
 v4:=Tryz.zeroValue4
 t23:=Tryz.underlying95
 a23:=Tryz.isAgg95
 z23:=Tryz.sizeOf95
 v23:=Tryz.zeroValue95
 t26:=Tryz.underlying9
 a26:=Tryz.isAgg9
 z26:=Tryz.sizeOf9
 v26:=Tryz.zeroValue9
 t27:=Tryz.underlying136
 a27:=Tryz.isAgg136
 z27:=Tryz.sizeOf136
 v27:=Tryz.zeroValue136
 t28:=Tryz.underlying137
 a28:=Tryz.isAgg137
 z28:=Tryz.sizeOf137
 v28:=Tryz.zeroValue137
 t33:=Tryz.underlying315
 a33:=Tryz.isAgg315
 z33:=Tryz.sizeOf315
 v33:=Tryz.zeroValue315 }
end Go.Proofs
namespace Go.Proofs
open Go.RowKit Go.Maps Go.Sort Go.Shelf
theorem Tryz.sorts98 (m:Nat):AnyZ.SortsIn Tryz.prog Tryz.sorted98_ren Fence.wide m :=
 ⟨fun blk off cap ss W hH hblk hsz => callsIn_wide.2 (AnyM.slices_Sort_string Tryz.sort210 blk off cap ss W hH hblk hsz),
  fun p cap W => callsIn_wide.2 (AnyM.slices_Sort_string_none Tryz.sort210 p cap W)⟩
theorem Tryz.maps_Keys_212 (mb:Option Nat) (W:World):CallsIn Fence.wide 5 Tryz.prog 212 #[.map mb] W fun e w' => e = .returned (.func (.func 267) #[] #[.pointer (some ⟨W.heap.size,0,none⟩)])∧w'=W.alloc (.cells #[.map mb] 95) :=
 AnyZ.keys_in Tryz.keys212 Fence.wide 5 trivial rfl mb W
set_option maxHeartbeats 1000000 in
theorem Tryz.slices_Sorted_keys_98_212 {H:Type} (b nn:Nat) (D0:DataW H) (R:Value→Option (DataW H×List MemPlace)) (w:World) (hown:w.ownsMap Tryz.prog 9 R b nn D0) (hmax:Maps.size D0≤maxLen) (hbytes:Maps.size D0 * 16≤140737488355328) :
    CallsIn Fence.wide 5 Tryz.prog 98 #[.func (.func 267) #[] #[.pointer (some ⟨w.heap.size,0,none⟩)]] (w.alloc (.cells #[.map (some b)] 95)) fun e w' => ∃ (v:Value) (ss:List (List UInt8)),e = .returned v∧ss.Perm (strKeys D0) ∧
     w'.ownsRow (w.alloc (.cells #[.map (some b)] 95)).heap.size 9 1 v ss.length ((ss.mergeSort (fun x y => decide (x≤y))).map encStr)∧(v = .slice none 0 0↔ss=[])∧Below (w.alloc (.cells #[.map (some b)] 95)).heap.size (w.alloc (.cells #[.map (some b)] 95)) w':=by
 have hbl:=hown.lt
 have hseq:SeqGives Fence.wide 2 Tryz.prog 267 #[.pointer (some ⟨w.heap.size,0,none⟩)] encStr (fun ss => ss.Perm (strKeys D0)) (Maps.size D0) (w.alloc (.cells #[.map (some b)] 95)) :=
  AnyZ.keys_gives (ρ:=Tryz.keys212_ren) { Tryz.keys212 with } Fence.wide _ trivial rfl (by omega) w.heap.size b nn D0 _ (by simp) (by simp) (by
   obtain ⟨es,clock,hb,Ft,hs,hD⟩:=hown;exact ⟨es,clock,(Below.heap_alloc _ _ b hbl).trans hb,Ft,hs,hD⟩)
 exact AnyZ.sorted_in Tryz.sorted98 Fence.wide 5 trivial trivial trivial trivial rfl (by omega) (Tryz.sorts98 _) (enters_of Tryz.func210 (by kernel_rfl) rfl) 267 #[.pointer (some ⟨w.heap.size,0,none⟩)] trivial (enters_of Tryz.func267 (by kernel_rfl) rfl) _ _ hmax hbytes _ hseq
end Go.Proofs
namespace Go.Proofs.YtobabnpllokkaaaGreatDoor
open Go.RowKit Go.Maps Go.WideShapes
open Go.WideElems (Fit rd rg pl rd_val rg_of elemAt)
def RNm (_:World) (cs:List Value) (x:ByteArray):Prop:=cs=[.string x]
theorem RNm.stays:Stays RNm:=fun _ _ _ _ _ h => h
theorem keyOf_str {s:ByteArray} (hs:s.size≤maxLen):keyOf Tryz.prog 9 (strV s)=some (.string s.data.toList):=by simp [keyOf,Tryz.underlying9,strV,mapKey,hs]
theorem names_of_row {B:Nat} {e:TypeId} {w:World} {v:Value} {xs:List (List UInt8)} {n:Nat} (hn:n=xs.length) (h:w.ownsRow B e 1 v n (xs.map encStr)):OwnL 1 B e RNm w v (xs.map bytesOf'):=by
 subst hn;refine ⟨xs.map fun l => [encStr l],by simp,fun i cs x hi hx => ?_,?_⟩
 ·rw [List.getElem?_map] at hi hx;cases hq:xs[i]? with
  | none => rw [hq] at hi;cases hi
  | some l =>
   rw [hq] at hi hx;simp only [Option.map_some,Option.some.injEq] at hi hx;subst hi;subst hx;exact ⟨rfl,rfl⟩
 ·have e1:∀ ys:List (List UInt8),(ys.map fun l => [encStr l]).flatten=ys.map encStr:=fun ys => by
    induction ys with
    | nil => rfl
    | cons a r ih => rw [List.map_cons,List.flatten_cons,ih];rfl
  rw [e1,List.length_map];exact h
theorem nm_at {w:World} {A:Option Addr} {n cap M:Nat} {xs:List ByteArray} (h:SlRep 1 M RNm w (.slice A n cap) xs) {k:Nat} (hk:k<xs.length) :
    ∃ b off,A=some ⟨b,off,none⟩∧w.cell? ⟨b,off+k,none⟩=some (.string xs[k]):=by
 obtain ⟨A1,cap1,hv,_,_,h3⟩:=h;obtain ⟨b,off,cs,hA,hl,hc,hr⟩:=h3 k _ (List.getElem?_eq_getElem hk);injection hv with hv _ _
 obtain rfl:cs=_:=hr;refine ⟨b,off,hv.trans hA,?_⟩;have:=hc 0 _ rfl
 rwa [Nat.mul_one,Nat.add_zero] at this
end Go.Proofs.YtobabnpllokkaaaGreatDoor
namespace Go.Proofs.YtobabnpllokkaaaGreatDoor
open Go.RowKit Go.WideMaps Go.Maps
abbrev Col:Type:=Nat×List V
section
variable {B:Nat} {w w':World} {blk:Nat} {rows:Int} {lv:Value} {cols:List Col} {S:Nat→Prop}
theorem map_ne {α:Type} {kv:α→Value} {b k:Nat} {l:List (α×Value)} {arr:Array Value} {t:TypeId} {fr:Nat×Nat} (h:MapE kv w b l) (hk:w.heap[k]?=some (.cells arr t fr)):b≠k:=fun e => by
 obtain ⟨es,c,h1,_⟩:=h;rw [e,hk] at h1;cases h1
end
structure En where
 p:ByteArray
 blk:Nat
 rows:Nat
 lv:Value
 cols:List Col
section
variable {B mb:Nat} {w w':World} {es:List En} {S:Nat→Prop}
end
end Go.Proofs.YtobabnpllokkaaaGreatDoor
