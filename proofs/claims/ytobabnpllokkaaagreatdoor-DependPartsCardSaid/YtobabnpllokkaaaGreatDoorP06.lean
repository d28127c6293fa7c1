/- Parts. -/
import Derived.Test.YtobabnpllokkaaaGreatDoorP05
import Derived.Test.YtobabnpllokkaaaGreatDoorP04
import Derived.Test.YtobabnpllokkaaaGreatDoorP02
import Derived.Test.YtobabnpllokkaaaGreatDoorP00
set_option linter.unusedSimpArgs false
set_option linter.unusedVariables false
namespace Go.Proofs.YtobabnpllokkaaaGreatDoor
open Go.RowKit
theorem exec_load_mid {P:Program} {op:Oper} {a:Act} {w:World} (ty:TypeId) (x:Operand) (ho:op.op = .load ty x) (b o:Nat) (hx:a.eval x = .pointer (some ⟨b,o,none⟩)) (cs:List Value) (d:TypeDesc) (hc:w.rangeAt b o cs) (hu:P.underlying ty=some d) (hd:d.isRow=true) (hi:(P.info? ty).map (·.size)=some cs.length) :
    (execOp a.eval op).run P w = .ok (.value (.agg cs.toArray)) w:=by
 unfold execOp;simp only [ho,hx,Instr.loadAt,Instr.sureAddr,Sem.run_bind,Sem.run_pure,Result.andThen_ok,run_loadVar_mid w b o ty cs d hc hu hd hi]
set_option maxHeartbeats 2000000 in
theorem leftAtom_any {M B:Nat} (p:ByteArray) (ts:List Tm) (tv:Value) (A:Option Addr) (c:Nat) (w:World) (hP:Pows w) (ht:TwTm B w tv ts) (hk:SlRep 4 M RTm w (.slice A ts.length c) ts) (hs:ts.length≤100000000) :
    Calls Tryz.prog 268 #[.agg #[.string p,tv],.agg #[.string p,.slice A ts.length c]] w fun e w' => e = .returned (.bool true)∧Fut w w':=by
 obtain ⟨g,_,rfl,_⟩:=TwinE.mark ht rfl (by decide);have f0:=Fut.alloc w (.cells #[.string p,.slice (some ⟨g,0,none⟩) ts.length (ts.length+1)] 108);have hb1:=heap_alloc_new w (.cells #[.string p,.slice (some ⟨g,0,none⟩) ts.length (ts.length+1)] 108);have hs1:(w.alloc (.cells #[.string p,.slice (some ⟨g,0,none⟩) ts.length (ts.length+1)] 108)).heap.size=w.heap.size+1:=by simp
 have f1:=Fut.alloc (w.alloc (.cells #[.string p,.slice (some ⟨g,0,none⟩) ts.length (ts.length+1)] 108)) (.cells #[.string p,.slice A ts.length c] 108);have hb2:=heap_alloc_new (w.alloc (.cells #[.string p,.slice (some ⟨g,0,none⟩) ts.length (ts.length+1)] 108)) (.cells #[.string p,.slice A ts.length c] 108);rw [hs1] at hb2;have hb11:=f1.block hb1;have f01:=f0.trans f1;have HK:=Hh (leftTm_any _ _ ts _ (hP.fut f01) (TwTm.keep ht f01) (hk.fut RTm.stays f01) hs);have F01:=Hh f01;have c0:=cell_at hb11 0 _ rfl;have c1:=cell_at hb11 1 _ rfl;have d0:=cell_at hb2 0 _ rfl;have d1:=cell_at hb2 1 _ rfl;clear f0 f1 f01 hb1 hb2 hb11 hs1 hk ht hP hs;go_enter Tryz.func268,Tryz.ntmps268;go_wp2_with fail;refine HK.out.mono ?_;rintro e w2 ⟨rfl,f2⟩;have F2:=F01.out.trans f2;clear f2 c0 c1 d0 d1;go_wp2;go_ret;exact ⟨rfl,F2⟩
set_option maxHeartbeats 2000000 in
theorem isLt_any (w:World) (hP:Pows w):Calls Tryz.prog 216 #[.agg mkLt.toArray,.int .i64 777777] w fun e w' => e = .returned (.bool true)∧Fut w w':=by
 have HP:=Hh hP;have HW:=Hh (fun w hP => word_any' w hP);unfold mkLt;generalize wordS=t at HW ⊢;have hbx:=heap_alloc_new w (.cells #[.int .i8 99,.string t,.slice none 0 0,.int .i8 0,.int .i8 0,.string ⟨#[]⟩,.int .i8 0,.int .i64 0,.string ⟨#[]⟩,.slice none 0 0,.int .i8 0,.string ⟨#[]⟩,.int .i8 0,.int .i64 0,.string ⟨#[]⟩,.slice none 0 0] 120);have c0:=cell_at hbx 0 _ rfl;have c1:=cell_at hbx 1 _ rfl;have c2:=cell_at hbx 2 _ rfl;clear hbx;go_enter Tryz.func216,Tryz.ntmps216;go_wp2;refine wp_graph 19 [.d,.d,.d,.d,.d,.d,.d,.d,.d,.d,.d,.d,.d,.d,.d,.d,.d,.d,.d] (by kernel_rfl) (by kernel_rfl) (by kernel_rfl) ?_;simp only [takS,Exs]
 iterate 19 apply Exists.intro
 apply Run.valG (wanted_none rfl _)
 ·intro w1 h1 hk;go_simp;rfl
 simp only [actS];apply Run.valG (wanted_none rfl _)
 ·intro w1 h1 hk;have q0:=h1.cell c0;have q1:=h1.cell c1;have q2:=h1.cell c2;have hcw:=fun b o => Below.cell (p:=⟨b,o,none⟩) h1;go_simp;rfl
 simp only [actS]
 iterate 2
  apply Run.valG (wanted_none rfl _)
  ·intro w1 h1 hk;go_simp;rfl
  simp only [actS]
 iterate 2
  apply Run.valG (by go_simp)
  ·intro w1 h1 hk;go_simp;rfl
  simp only [actS]
 apply Run.valG (by go_simp)
 ·intro w1 h1 hk;have q0:=h1.cell c0;have q1:=h1.cell c1;have q2:=h1.cell c2;have hcw:=fun b o => Below.cell (p:=⟨b,o,none⟩) h1;go_simp;rfl
 simp only [actS];apply Run.valG (by go_simp)
 ·intro w1 h1 hk;go_simp;rfl
 simp only [actS];apply Run.call (by go_simp) (fun _ _ => by go_simp;exact ⟨rfl,rfl⟩)
 ·intro w1 h1 hk;have q0:=h1.cell c0;have q1:=h1.cell c1;have q2:=h1.cell c2;exact HW.out _ (HP.out.fut (((Fut.alloc _ _).trans (Fut.drew _)).trans h1))
 simp only [actS];apply Run.valG (by go_simp)
 ·intro w1 h1 hk;go_simp;rfl
 simp only [actS]
 iterate 2
  apply Run.valG (wanted_none rfl _)
  ·intro w1 h1 hk;go_simp;rfl
  simp only [actS]
 iterate 2
  apply Run.valG (by go_simp)
  ·intro w1 h1 hk;go_simp;rfl
  simp only [actS]
 iterate 2
  apply Run.valG (by go_simp)
  ·intro w1 h1 hk;have q0:=h1.cell c0;have q1:=h1.cell c1;have q2:=h1.cell c2;have hcw:=fun b o => Below.cell (p:=⟨b,o,none⟩) h1;go_simp;rfl
  simp only [actS]
 apply Run.valG (by go_simp)
 ·intro w1 h1 hk;go_simp;rfl
 simp only [actS]
 iterate 2
  apply Run.valG (wanted_none rfl _)
  ·intro w1 h1 hk;go_simp;rfl
  simp only [actS]
 apply Run.done;intro w2 h2 hk;clear hk;go_wp2;go_ret;exact ⟨by first|rfl|simp,(Fut.alloc _ _).trans ((Fut.drew _).trans h2)⟩
set_option maxHeartbeats 4000000 in
set_option maxRecDepth 100000 in
theorem leftLt_any {B:Nat} (x:Lt) (ct cs:List Value) (w:World) (hP:Pows w) (ht:TwLt B w ct x) (hx:RLt w cs x) (hs:x.fits) :
    Calls Tryz.prog 215 #[.agg ct.toArray,.agg cs.toArray] w fun e w' => e = .returned (.bool true)∧Fut w w':=by
 obtain ⟨k,p,a,r,l,d⟩:=x;obtain ⟨av,cl,cd,rfl,_,_,_,_,_,ha,⟨n1,h1⟩,⟨n2,h2⟩⟩:=hx;obtain ⟨tv,tl,td,m1',m2',rfl,hta,htl,htd⟩:=ht;obtain ⟨s1,s2,s3⟩:=hs;dsimp only at *;obtain ⟨A,c,rfl,_,_⟩:=ha.form;have H1:=RE.mono (Nat.le_max_left n1 m1') h1;have H2:=RE.mono (Nat.le_max_left n2 m2') h2;have T1:=TwEx.mono (Nat.le_max_right n1 m1') htl;have T2:=TwEx.mono (Nat.le_max_right n2 m2') htd;generalize max n1 m1'=q1 at *;generalize max n2 m2'=q2 at *;obtain ⟨j1,op1,⟨tv1,⟨xk1,xn1,xs1⟩⟩,ks1,A1,c1,rfl,rfl,rfl,_,_,_⟩:=ex_form h1;obtain ⟨j2,op2,⟨tv2,⟨xk2,xn2,xs2⟩⟩,ks2,A2,c2,rfl,rfl,rfl,_,_,_⟩:=ex_form h2;obtain ⟨ga,_,rfl,_⟩:=TwinE.mark hta rfl (by decide);cases m1' with
 | zero => exact htl.elim
 | succ m1' =>
 cases m2' with
 | zero => exact htd.elim
 | succ m2' =>
 obtain ⟨kv1,rfl,hk1⟩:=htl;obtain ⟨kv2,rfl,hk2⟩:=htd;obtain ⟨g1,_,rfl,_⟩:=TwinE.mark hk1 rfl (by decide);obtain ⟨g2,_,rfl,_⟩:=TwinE.mark hk2 rfl (by decide);dsimp only at *;show Calls Tryz.prog 215 #[.agg #[.int .i8 k,.string p,.slice (some ⟨ga,0,none⟩) a.length (a.length+1),.int .i8 r,.int .i8 op1,.string tv1,.int .i8 xk1,.int .i64 xn1,.string xs1,.slice (some ⟨g1,0,none⟩) ks1.length (ks1.length+1),.int .i8 op2,.string tv2,.int .i8 xk2,.int .i64 xn2,.string xs2,.slice (some ⟨g2,0,none⟩) ks2.length (ks2.length+1)],.agg #[.int .i8 k,.string p,.slice A a.length c,.int .i8 r,.int .i8 op1,.string tv1,.int .i8 xk1,.int .i64 xn1,.string xs1,.slice A1 ks1.length c1,.int .i8 op2,.string tv2,.int .i8 xk2,.int .i64 xn2,.string xs2,.slice A2 ks2.length c2]] w _;have f0:=Fut.alloc w (.cells #[.int .i8 k,.string p,.slice (some ⟨ga,0,none⟩) a.length (a.length+1),.int .i8 r,.int .i8 op1,.string tv1,.int .i8 xk1,.int .i64 xn1,.string xs1,.slice (some ⟨g1,0,none⟩) ks1.length (ks1.length+1),.int .i8 op2,.string tv2,.int .i8 xk2,.int .i64 xn2,.string xs2,.slice (some ⟨g2,0,none⟩) ks2.length (ks2.length+1)] 120);have hb1:=heap_alloc_new w (.cells #[.int .i8 k,.string p,.slice (some ⟨ga,0,none⟩) a.length (a.length+1),.int .i8 r,.int .i8 op1,.string tv1,.int .i8 xk1,.int .i64 xn1,.string xs1,.slice (some ⟨g1,0,none⟩) ks1.length (ks1.length+1),.int .i8 op2,.string tv2,.int .i8 xk2,.int .i64 xn2,.string xs2,.slice (some ⟨g2,0,none⟩) ks2.length (ks2.length+1)] 120);have hs1:(w.alloc (.cells #[.int .i8 k,.string p,.slice (some ⟨ga,0,none⟩) a.length (a.length+1),.int .i8 r,.int .i8 op1,.string tv1,.int .i8 xk1,.int .i64 xn1,.string xs1,.slice (some ⟨g1,0,none⟩) ks1.length (ks1.length+1),.int .i8 op2,.string tv2,.int .i8 xk2,.int .i64 xn2,.string xs2,.slice (some ⟨g2,0,none⟩) ks2.length (ks2.length+1)] 120)).heap.size=w.heap.size+1:=by simp
 have f1:=Fut.alloc (w.alloc (.cells #[.int .i8 k,.string p,.slice (some ⟨ga,0,none⟩) a.length (a.length+1),.int .i8 r,.int .i8 op1,.string tv1,.int .i8 xk1,.int .i64 xn1,.string xs1,.slice (some ⟨g1,0,none⟩) ks1.length (ks1.length+1),.int .i8 op2,.string tv2,.int .i8 xk2,.int .i64 xn2,.string xs2,.slice (some ⟨g2,0,none⟩) ks2.length (ks2.length+1)] 120)) (.cells #[.int .i8 k,.string p,.slice A a.length c,.int .i8 r,.int .i8 op1,.string tv1,.int .i8 xk1,.int .i64 xn1,.string xs1,.slice A1 ks1.length c1,.int .i8 op2,.string tv2,.int .i8 xk2,.int .i64 xn2,.string xs2,.slice A2 ks2.length c2] 120);have hb2:=heap_alloc_new (w.alloc (.cells #[.int .i8 k,.string p,.slice (some ⟨ga,0,none⟩) a.length (a.length+1),.int .i8 r,.int .i8 op1,.string tv1,.int .i8 xk1,.int .i64 xn1,.string xs1,.slice (some ⟨g1,0,none⟩) ks1.length (ks1.length+1),.int .i8 op2,.string tv2,.int .i8 xk2,.int .i64 xn2,.string xs2,.slice (some ⟨g2,0,none⟩) ks2.length (ks2.length+1)] 120)) (.cells #[.int .i8 k,.string p,.slice A a.length c,.int .i8 r,.int .i8 op1,.string tv1,.int .i8 xk1,.int .i64 xn1,.string xs1,.slice A1 ks1.length c1,.int .i8 op2,.string tv2,.int .i8 xk2,.int .i64 xn2,.string xs2,.slice A2 ks2.length c2] 120);rw [hs1] at hb2;have hb11:=f1.block hb1;have f01:=f0.trans f1;obtain ⟨wB,hwB⟩:∃ W,(w.alloc (.cells #[.int .i8 k,.string p,.slice (some ⟨ga,0,none⟩) a.length (a.length+1),.int .i8 r,.int .i8 op1,.string tv1,.int .i8 xk1,.int .i64 xn1,.string xs1,.slice (some ⟨g1,0,none⟩) ks1.length (ks1.length+1),.int .i8 op2,.string tv2,.int .i8 xk2,.int .i64 xn2,.string xs2,.slice (some ⟨g2,0,none⟩) ks2.length (ks2.length+1)] 120)).alloc (.cells #[.int .i8 k,.string p,.slice A a.length c,.int .i8 r,.int .i8 op1,.string tv1,.int .i8 xk1,.int .i64 xn1,.string xs1,.slice A1 ks1.length c1,.int .i8 op2,.string tv2,.int .i8 xk2,.int .i64 xn2,.string xs2,.slice A2 ks2.length c2] 120)=W:=⟨_,rfl⟩
 have y0:=cell_at hb11 0 _ rfl;have y3:=cell_at hb11 3 _ rfl;have z0:=cell_at hb2 0 _ rfl;have z3:=cell_at hb2 3 _ rfl;have l1:=Hh (show World.rangeAt _ w.heap.size 1 [.string p,.slice (some ⟨ga,0,none⟩) a.length (a.length+1)] from range_mid (cs:=[.int .i8 k,.string p,.slice (some ⟨ga,0,none⟩) a.length (a.length+1),.int .i8 r,.int .i8 op1,.string tv1,.int .i8 xk1,.int .i64 xn1,.string xs1,.slice (some ⟨g1,0,none⟩) ks1.length (ks1.length+1),.int .i8 op2,.string tv2,.int .i8 xk2,.int .i64 xn2,.string xs2,.slice (some ⟨g2,0,none⟩) ks2.length (ks2.length+1)]) hb11 1 2);have l2:=Hh (show World.rangeAt _ (w.heap.size+1) 1 [.string p,.slice A a.length c] from range_mid (cs:=[.int .i8 k,.string p,.slice A a.length c,.int .i8 r,.int .i8 op1,.string tv1,.int .i8 xk1,.int .i64 xn1,.string xs1,.slice A1 ks1.length c1,.int .i8 op2,.string tv2,.int .i8 xk2,.int .i64 xn2,.string xs2,.slice A2 ks2.length c2]) hb2 1 2);rw [hwB] at f01 hb11 hb2;have HB1:=Hh hb11;have HB2:=Hh hb2;have HA:=Hh (leftAtom_any p a _ A c wB (hP.fut f01) (TwTm.keep hta f01) (ha.fut RTm.stays f01) s1);have HE1:=Hh (fun W (hW:Fut w W) => leftExpr_any _ _ _ B W q1 (hP.fut hW) (T1.keep hW) (RE.stays _ _ _ _ _ hW H1) s2);have HE2:=Hh (fun W (hW:Fut w W) => leftExpr_any _ _ _ B W q2 (hP.fut hW) (T2.keep hW) (RE.stays _ _ _ _ _ hW H2) s3);have F01:=Hh f01;have hwB':=Hh hwB;have hi1:=infoAtN;have hi2:=infoExN;clear f0 f1 f01 hb1 hb2 hb11 hs1 ha hta h1 h2 H1 H2 T1 T2 hk1 hk2 hP hwB s1 s2 s3;go_enter Tryz.func215,Tryz.ntmps215;go_wp2_with (first|(show wpList _ _ _ (Oper.mk _ (Op.load 108 _) _ _ _ _ :: _) _ _;first|(refine wpList_loadG (by go_simp) _ _ rfl w.heap.size 1 rfl [.string p,.slice (some ⟨ga,0,none⟩) a.length (a.length+1)] _ l1.out Tryz.underlying108 rfl hi1 ?_)|(refine wpList_loadG (by go_simp) _ _ rfl (w.heap.size+1) 1 rfl [.string p,.slice A a.length c] _ l2.out Tryz.underlying108 rfl hi1 ?_)));rw [hwB'.out];refine HA.out.mono ?_;rintro e w2 ⟨rfl,f2⟩;have F2:=Hh (F01.out.trans f2);have b1:=Hh (f2.block HB1.out);have b2:=Hh (f2.block HB2.out);have l3:=Hh (show World.rangeAt _ w.heap.size 4 [.int .i8 op1,.string tv1,.int .i8 xk1,.int .i64 xn1,.string xs1,.slice (some ⟨g1,0,none⟩) ks1.length (ks1.length+1)] from range_mid (cs:=[.int .i8 k,.string p,.slice (some ⟨ga,0,none⟩) a.length (a.length+1),.int .i8 r,.int .i8 op1,.string tv1,.int .i8 xk1,.int .i64 xn1,.string xs1,.slice (some ⟨g1,0,none⟩) ks1.length (ks1.length+1),.int .i8 op2,.string tv2,.int .i8 xk2,.int .i64 xn2,.string xs2,.slice (some ⟨g2,0,none⟩) ks2.length (ks2.length+1)]) b1.out 4 6);have l4:=Hh (show World.rangeAt _ (w.heap.size+1) 4 [.int .i8 op1,.string tv1,.int .i8 xk1,.int .i64 xn1,.string xs1,.slice A1 ks1.length c1] from range_mid (cs:=[.int .i8 k,.string p,.slice A a.length c,.int .i8 r,.int .i8 op1,.string tv1,.int .i8 xk1,.int .i64 xn1,.string xs1,.slice A1 ks1.length c1,.int .i8 op2,.string tv2,.int .i8 xk2,.int .i64 xn2,.string xs2,.slice A2 ks2.length c2]) b2.out 4 6);clear f2 y0 y3 z0 z3 l1 l2 HA HB1 HB2;go_wp2_with (first|(show wpList _ _ _ (Oper.mk _ (Op.load 118 _) _ _ _ _ :: _) _ _;first|(refine wpList_loadG (by go_simp) _ _ rfl w.heap.size 4 rfl [.int .i8 op1,.string tv1,.int .i8 xk1,.int .i64 xn1,.string xs1,.slice (some ⟨g1,0,none⟩) ks1.length (ks1.length+1)] _ l3.out Tryz.underlying118 rfl hi2 ?_)|(refine wpList_loadG (by go_simp) _ _ rfl (w.heap.size+1) 4 rfl [.int .i8 op1,.string tv1,.int .i8 xk1,.int .i64 xn1,.string xs1,.slice A1 ks1.length c1] _ l4.out Tryz.underlying118 rfl hi2 ?_)));refine (HE1.out _ F2.out).mono ?_;rintro e w3 ⟨rfl,f3⟩;have F3:=Hh (F2.out.trans f3);have l5:=Hh (show World.rangeAt _ w.heap.size 10 [.int .i8 op2,.string tv2,.int .i8 xk2,.int .i64 xn2,.string xs2,.slice (some ⟨g2,0,none⟩) ks2.length (ks2.length+1)] from range_mid (cs:=[.int .i8 k,.string p,.slice (some ⟨ga,0,none⟩) a.length (a.length+1),.int .i8 r,.int .i8 op1,.string tv1,.int .i8 xk1,.int .i64 xn1,.string xs1,.slice (some ⟨g1,0,none⟩) ks1.length (ks1.length+1),.int .i8 op2,.string tv2,.int .i8 xk2,.int .i64 xn2,.string xs2,.slice (some ⟨g2,0,none⟩) ks2.length (ks2.length+1)]) (f3.block b1.out) 10 6);have l6:=Hh (show World.rangeAt _ (w.heap.size+1) 10 [.int .i8 op2,.string tv2,.int .i8 xk2,.int .i64 xn2,.string xs2,.slice A2 ks2.length c2] from range_mid (cs:=[.int .i8 k,.string p,.slice A a.length c,.int .i8 r,.int .i8 op1,.string tv1,.int .i8 xk1,.int .i64 xn1,.string xs1,.slice A1 ks1.length c1,.int .i8 op2,.string tv2,.int .i8 xk2,.int .i64 xn2,.string xs2,.slice A2 ks2.length c2]) (f3.block b2.out) 10 6);clear f3 l3 l4 b1 b2 HE1;go_wp2_with (first|(show wpList _ _ _ (Oper.mk _ (Op.load 118 _) _ _ _ _ :: _) _ _;first|(refine wpList_loadG (by go_simp) _ _ rfl w.heap.size 10 rfl [.int .i8 op2,.string tv2,.int .i8 xk2,.int .i64 xn2,.string xs2,.slice (some ⟨g2,0,none⟩) ks2.length (ks2.length+1)] _ l5.out Tryz.underlying118 rfl hi2 ?_)|(refine wpList_loadG (by go_simp) _ _ rfl (w.heap.size+1) 10 rfl [.int .i8 op2,.string tv2,.int .i8 xk2,.int .i64 xn2,.string xs2,.slice A2 ks2.length c2] _ l6.out Tryz.underlying118 rfl hi2 ?_)));refine (HE2.out _ F3.out).mono ?_;rintro e w4 ⟨rfl,f4⟩;have F4:=F3.out.trans f4;clear f4;go_wp2;go_ret;exact ⟨rfl,F4⟩
set_option maxHeartbeats 2000000 in
theorem leftLts_any {M B:Nat} (xs:List Lt) (t a:Value) (w:World) (hP:Pows w) (ht:TwLts B w t xs) (ha:SlRep 16 M RLt w a xs) (hn:xs.length≤100000000) (hs:∀ x ∈ xs,x.fits) :
    Calls Tryz.prog 102 #[t,a] w fun e w' => e = .returned (.bool true)∧Fut w w':=by
 obtain ⟨A,c,rfl,_,_⟩:=ha.form;obtain ⟨g,hg,rfl,hmk⟩:=TwinE.mark ht rfl (by decide);have HT:=Hh ht;have HA:=Hh ha;have HP:=Hh hP;have HS:=Hh hs;have HMK:=Hh hmk;have HI:=Hh (fun W hW => isLt_any W hW);have hxl:xs.length≤9223372036854775807:=by omega
 have hiN:=infoLtN;clear ht ha hP hmk hs;go_enter Tryz.func102,Tryz.ntmps102;go_wp2;go_loopw [5] (fun i wr => ∃ k:Nat,k≤xs.length∧i = .int .i64 k∧Hid (Fut w wr)) (fun i _ => xs.length - (intOf i).toNat)
 case atStart => exact ⟨0,Nat.zero_le _,rfl,Hh (Fut.refl _)⟩
 case round =>
  obtain ⟨k,hk,rfl,hF⟩:=hrel
  by_cases hlt:k<xs.length
  ·have hltI:(k:Int)<xs.length:=by omega
   have e0:(0:Int)≤k∧(k:Int)<xs.length:=by omega
   obtain ⟨b1,o1,cs1,rfl,hr1,hl1,hc1⟩:=sl_row HA.out hlt;obtain ⟨g',cs2,_,hge,hl2,hr2,hc2⟩:=TwinE.row HT.out hlt;injection hge with hge _ _
   injection hge with hge
   injection hge with hge _ _
   subst hge;have hzx:=HS.out _ (List.getElem_mem hlt);generalize xs[k]=z at *;have hi1:(Tryz.prog.info? 120).map (·.size)=some cs1.length:=by rw [hl1];exact hiN
   have hi2:(Tryz.prog.info? 120).map (·.size)=some cs2.length:=by rw [hl2];exact hiN
   have r1:=Hh (show wr.rangeAt b1 (o1+k * 16) cs1 from fun j v hj => hF.out.cell (hc1 j v hj));have r2:=Hh (show wr.rangeAt g (k * 16) cs2 from fun j v hj => hF.out.cell (hc2 j v hj));have HC:=Hh (fun W (hW:Fut w W) => leftLt_any z _ _ W (HP.out.fut hW) (hr2.keep hW) (RLt.stays _ _ _ _ hW hr1) hzx);clear hc1 hc2 hr1 hr2 hzx hl1 hl2;go_wp2;refine wp_graph 10 [.d,.d,.d,.d,.d,.d,.d,.d,.d,.d] (by kernel_rfl) (by kernel_rfl) (by kernel_rfl) ?_;simp only [takS,Exs]
   iterate 10 apply Exists.intro
   iterate 3
    apply Run.valG (wanted_none rfl _)
    ·intro w1 h1 hk;go_simp;rfl
    simp only [actS]
   apply Run.valG (wanted_none rfl _)
   ·intro w1 h1 hk;have hcw:=fun b o => Below.cell (p:=⟨b,o,none⟩) h1;exact exec_load_mid _ _ rfl g (k * 16) rfl cs2 _ (fun j v hj => h1.cell (r2.out j v hj)) Tryz.underlying120 rfl hi2
   simp only [actS]
   iterate 3
    apply Run.valG (wanted_none rfl _)
    ·intro w1 h1 hk;go_simp;rfl
    simp only [actS]
   apply Run.valG (wanted_none rfl _)
   ·intro w1 h1 hk;have hcw:=fun b o => Below.cell (p:=⟨b,o,none⟩) h1;exact exec_load_mid _ _ rfl b1 (o1+k * 16) rfl cs1 _ (fun j v hj => h1.cell (r1.out j v hj)) Tryz.underlying120 rfl hi1
   simp only [actS];apply Run.call (wanted_none rfl _) (fun _ _ => by go_simp;exact ⟨rfl,rfl⟩)
   ·intro w1 h1 hk;exact HC.out _ ((hF.out.trans (Fut.drew _)).trans h1)
   simp only [actS];apply Run.valG (wanted_none rfl _)
   ·intro w1 h1 hk;go_simp;rfl
   simp only [actS];apply Run.done;intro w2 h2 hk;clear hk;have F9:=Hh (hF.out.trans ((Fut.drew _).trans h2));clear h2;go_wp2;go_roundw
   case rel => exact ⟨k+1,by omega,by go_num,F9⟩
   case measure => simp [intOf] <;> omega
  ·obtain rfl:k=xs.length:=by omega
   have hcs9:=Hh (fun j u (hj:mkLt[j]?=some u) => hF.out.cell (HMK.out j u hj));have e1:(0:Int)≤xs.length∧(xs.length:Int)<xs.length+1:=by omega
   go_wp2_with (first|(show wpList _ _ _ (Oper.mk _ (Op.load _ _) _ _ _ _ :: _) _ _;refine wpList_load_mid rfl _ _ rfl g (xs.length * 16) rfl mkLt _ hcs9.out Tryz.underlying120 rfl hiN ?_));refine (HI.out _ (HP.out.fut hF.out)).mono ?_;rintro e w2 ⟨rfl,f2⟩;have F2:=hF.out.trans f2;clear f2;go_wp2;go_ret;exact ⟨rfl,F2⟩
set_option maxHeartbeats 2000000 in
theorem isRu_any (w:World) (hP:Pows w):Calls Tryz.prog 37 #[.agg mkRu.toArray,.int .i64 777777] w fun e w' => e = .returned (.bool true)∧Fut w w':=by
 have HP:=Hh hP;have HW:=Hh (fun w hP => word_any' w hP);unfold mkRu;generalize wordS=t at HW ⊢;have hbx:=heap_alloc_new w (.cells #[.string t,.slice none 0 0,.slice none 0 0] 82);have c0:=cell_at hbx 0 _ rfl;have c1:=cell_at hbx 1 _ rfl;have c2:=cell_at hbx 2 _ rfl;clear hbx;go_enter Tryz.func37,Tryz.ntmps37;go_wp2;refine wp_graph 18 [.d,.d,.d,.d,.d,.d,.d,.d,.d,.d,.d,.d,.d,.d,.d,.d,.d,.d] (by kernel_rfl) (by kernel_rfl) (by kernel_rfl) ?_;simp only [takS,Exs]
 iterate 18 apply Exists.intro
 apply Run.valG (wanted_none rfl _)
 ·intro w1 h1 hk;go_simp;rfl
 simp only [actS];apply Run.valG (wanted_none rfl _)
 ·intro w1 h1 hk;have q0:=h1.cell c0;have q1:=h1.cell c1;have q2:=h1.cell c2;have hcw:=fun b o => Below.cell (p:=⟨b,o,none⟩) h1;go_simp;rfl
 simp only [actS];apply Run.valG (wanted_none rfl _)
 ·intro w1 h1 hk;go_simp;rfl
 simp only [actS];apply Run.call (wanted_none rfl _) (fun _ _ => by go_simp;exact ⟨rfl,rfl⟩)
 ·intro w1 h1 hk;have q0:=h1.cell c0;have q1:=h1.cell c1;have q2:=h1.cell c2;exact HW.out _ (HP.out.fut (((Fut.alloc _ _).trans (Fut.drew _)).trans h1))
 simp only [actS]
 iterate 2
  apply Run.valG (wanted_none rfl _)
  ·intro w1 h1 hk;go_simp;rfl
  simp only [actS]
 apply Run.valG (by go_simp)
 ·intro w1 h1 hk;go_simp;rfl
 simp only [actS]
 iterate 2
  apply Run.valG (by go_simp)
  ·intro w1 h1 hk;have q0:=h1.cell c0;have q1:=h1.cell c1;have q2:=h1.cell c2;have hcw:=fun b o => Below.cell (p:=⟨b,o,none⟩) h1;go_simp;rfl
  simp only [actS]
 apply Run.valG (by go_simp)
 ·intro w1 h1 hk;go_simp;rfl
 simp only [actS]
 iterate 2
  apply Run.valG (wanted_none rfl _)
  ·intro w1 h1 hk;go_simp;rfl
  simp only [actS]
 apply Run.valG (by go_simp)
 ·intro w1 h1 hk;go_simp;rfl
 simp only [actS]
 iterate 2
  apply Run.valG (by go_simp)
  ·intro w1 h1 hk;have q0:=h1.cell c0;have q1:=h1.cell c1;have q2:=h1.cell c2;have hcw:=fun b o => Below.cell (p:=⟨b,o,none⟩) h1;go_simp;rfl
  simp only [actS]
 apply Run.valG (by go_simp)
 ·intro w1 h1 hk;go_simp;rfl
 simp only [actS]
 iterate 2
  apply Run.valG (wanted_none rfl _)
  ·intro w1 h1 hk;go_simp;rfl
  simp only [actS]
 apply Run.done;intro w2 h2 hk;clear hk;go_wp2;go_ret;exact ⟨by first|rfl|simp,(Fut.alloc _ _).trans ((Fut.drew _).trans h2)⟩
set_option maxHeartbeats 4000000 in
theorem leftRu_any {B:Nat} (x:Ru) (ct cs:List Value) (w:World) (hP:Pows w) (ht:TwRu B w ct x) (hx:RRu w cs x) (hs:x.fits) :
    Calls Tryz.prog 36 #[.agg ct.toArray,.agg cs.toArray] w fun e w' => e = .returned (.bool true)∧Fut w w':=by
 obtain ⟨p,xh,xb⟩:=x;obtain ⟨hv,bv,rfl,_,hh,hb⟩:=hx;obtain ⟨th,tb,rfl,hth,htb⟩:=ht;obtain ⟨s1,s2,s3⟩:=hs;dsimp only at *;obtain ⟨A1,c1,rfl,_,_⟩:=hh.form;obtain ⟨A2,c2,rfl,_,_⟩:=hb.form;obtain ⟨g1,_,rfl,_⟩:=TwinE.mark hth rfl (by decide);obtain ⟨g2,_,rfl,_⟩:=TwinE.mark htb rfl (by decide);show Calls Tryz.prog 36 #[.agg #[.string p,.slice (some ⟨g1,0,none⟩) xh.length (xh.length+1),.slice (some ⟨g2,0,none⟩) xb.length (xb.length+1)],.agg #[.string p,.slice A1 xh.length c1,.slice A2 xb.length c2]] w _;have f0:=Fut.alloc w (.cells #[.string p,.slice (some ⟨g1,0,none⟩) xh.length (xh.length+1),.slice (some ⟨g2,0,none⟩) xb.length (xb.length+1)] 82);have hb1:=heap_alloc_new w (.cells #[.string p,.slice (some ⟨g1,0,none⟩) xh.length (xh.length+1),.slice (some ⟨g2,0,none⟩) xb.length (xb.length+1)] 82);have hs1:(w.alloc (.cells #[.string p,.slice (some ⟨g1,0,none⟩) xh.length (xh.length+1),.slice (some ⟨g2,0,none⟩) xb.length (xb.length+1)] 82)).heap.size=w.heap.size+1:=by simp
 have f1:=Fut.alloc (w.alloc (.cells #[.string p,.slice (some ⟨g1,0,none⟩) xh.length (xh.length+1),.slice (some ⟨g2,0,none⟩) xb.length (xb.length+1)] 82)) (.cells #[.string p,.slice A1 xh.length c1,.slice A2 xb.length c2] 82);have hb2:=heap_alloc_new (w.alloc (.cells #[.string p,.slice (some ⟨g1,0,none⟩) xh.length (xh.length+1),.slice (some ⟨g2,0,none⟩) xb.length (xb.length+1)] 82)) (.cells #[.string p,.slice A1 xh.length c1,.slice A2 xb.length c2] 82);rw [hs1] at hb2;have hb11:=f1.block hb1;have f01:=f0.trans f1;have y0:=cell_at hb11 0 _ rfl;have y1:=cell_at hb11 1 _ rfl;have y2:=cell_at hb11 2 _ rfl;have z0:=cell_at hb2 0 _ rfl;have z1:=cell_at hb2 1 _ rfl;have z2:=cell_at hb2 2 _ rfl;have HY:=Hh y2;have HZ:=Hh z2;have HA:=Hh (leftAr_any _ _ xh _ (hP.fut f01) (TwAr.keep hth f01) (hh.fut RAr.stays f01) s1);have HL:=Hh (fun W (hW:Fut w W) => leftLts_any xb _ _ W (hP.fut hW) (TwLts.keep htb hW) (hb.fut RLt.stays hW) s2 s3);have F01:=Hh f01;clear f0 f1 f01 hb1 hb2 hb11 hs1 hh hb hth htb hP s1 s2 s3;go_enter Tryz.func36,Tryz.ntmps36;go_wp2_with fail;refine HA.out.mono ?_;rintro e w2 ⟨rfl,f2⟩;have F2:=Hh (F01.out.trans f2);have q1:=f2.cell HY.out;have q2:=f2.cell HZ.out;clear f2 y0 y1 y2 z0 z1 z2 HY HZ HA;go_wp2_with fail;refine (HL.out _ F2.out).mono ?_;rintro e w3 ⟨rfl,f3⟩;have F3:=F2.out.trans f3;clear f3 q1 q2;go_wp2;go_ret;exact ⟨rfl,F3⟩
set_option maxHeartbeats 2000000 in
theorem leftRus_any {M B:Nat} (xs:List Ru) (t a:Value) (w:World) (hP:Pows w) (ht:TwRus B w t xs) (ha:SlRep 3 M RRu w a xs) (hn:xs.length≤100000000) (hs:∀ x ∈ xs,x.fits) :
    Calls Tryz.prog 12 #[t,a] w fun e w' => e = .returned (.bool true)∧Fut w w':=by
 obtain ⟨A,c,rfl,_,_⟩:=ha.form;obtain ⟨g,hg,rfl,hmk⟩:=TwinE.mark ht rfl (by decide);have HT:=Hh ht;have HA:=Hh ha;have HP:=Hh hP;have HS:=Hh hs;have HMK:=Hh hmk;have HI:=Hh (fun W hW => isRu_any W hW);have hxl:xs.length≤9223372036854775807:=by omega
 have hiN:=infoRuN;clear ht ha hP hmk hs;go_enter Tryz.func12,Tryz.ntmps12;go_wp2;go_loopw [5] (fun i wr => ∃ k:Nat,k≤xs.length∧i = .int .i64 k∧Hid (Fut w wr)) (fun i _ => xs.length - (intOf i).toNat)
 case atStart => exact ⟨0,Nat.zero_le _,rfl,Hh (Fut.refl _)⟩
 case round =>
  obtain ⟨k,hk,rfl,hF⟩:=hrel
  by_cases hlt:k<xs.length
  ·have hltI:(k:Int)<xs.length:=by omega
   have e0:(0:Int)≤k∧(k:Int)<xs.length:=by omega
   obtain ⟨b1,o1,cs1,rfl,hr1,hl1,hc1⟩:=sl_row HA.out hlt;obtain ⟨g',cs2,_,hge,hl2,hr2,hc2⟩:=TwinE.row HT.out hlt;injection hge with hge _ _
   injection hge with hge
   injection hge with hge _ _
   subst hge;have hzx:=HS.out _ (List.getElem_mem hlt);generalize xs[k]=z at *;have hi1:(Tryz.prog.info? 82).map (·.size)=some cs1.length:=by rw [hl1];exact hiN
   have hi2:(Tryz.prog.info? 82).map (·.size)=some cs2.length:=by rw [hl2];exact hiN
   have r1:=Hh (show wr.rangeAt b1 (o1+k * 3) cs1 from fun j v hj => hF.out.cell (hc1 j v hj));have r2:=Hh (show wr.rangeAt g (k * 3) cs2 from fun j v hj => hF.out.cell (hc2 j v hj));have HC:=Hh (fun W (hW:Fut w W) => leftRu_any z _ _ W (HP.out.fut hW) (hr2.keep hW) (RRu.stays _ _ _ _ hW hr1) hzx);clear hc1 hc2 hr1 hr2 hzx hl1 hl2;go_wp2;refine wp_graph 10 [.d,.d,.d,.d,.d,.d,.d,.d,.d,.d] (by kernel_rfl) (by kernel_rfl) (by kernel_rfl) ?_;simp only [takS,Exs]
   iterate 10 apply Exists.intro
   iterate 3
    apply Run.valG (wanted_none rfl _)
    ·intro w1 h1 hk;go_simp;rfl
    simp only [actS]
   apply Run.valG (wanted_none rfl _)
   ·intro w1 h1 hk;have hcw:=fun b o => Below.cell (p:=⟨b,o,none⟩) h1;exact exec_load_mid _ _ rfl g (k * 3) rfl cs2 _ (fun j v hj => h1.cell (r2.out j v hj)) Tryz.underlying82 rfl hi2
   simp only [actS]
   iterate 3
    apply Run.valG (wanted_none rfl _)
    ·intro w1 h1 hk;go_simp;rfl
    simp only [actS]
   apply Run.valG (wanted_none rfl _)
   ·intro w1 h1 hk;have hcw:=fun b o => Below.cell (p:=⟨b,o,none⟩) h1;exact exec_load_mid _ _ rfl b1 (o1+k * 3) rfl cs1 _ (fun j v hj => h1.cell (r1.out j v hj)) Tryz.underlying82 rfl hi1
   simp only [actS];apply Run.call (wanted_none rfl _) (fun _ _ => by go_simp;exact ⟨rfl,rfl⟩)
   ·intro w1 h1 hk;exact HC.out _ ((hF.out.trans (Fut.drew _)).trans h1)
   simp only [actS];apply Run.valG (wanted_none rfl _)
   ·intro w1 h1 hk;go_simp;rfl
   simp only [actS];apply Run.done;intro w2 h2 hk;clear hk;have F9:=Hh (hF.out.trans ((Fut.drew _).trans h2));clear h2;go_wp2;go_roundw
   case rel => exact ⟨k+1,by omega,by go_num,F9⟩
   case measure => simp [intOf] <;> omega
  ·obtain rfl:k=xs.length:=by omega
   have hcs9:=Hh (fun j u (hj:mkRu[j]?=some u) => hF.out.cell (HMK.out j u hj));have e1:(0:Int)≤xs.length∧(xs.length:Int)<xs.length+1:=by omega
   go_wp2_with (first|(show wpList _ _ _ (Oper.mk _ (Op.load _ _) _ _ _ _ :: _) _ _;refine wpList_load_mid rfl _ _ rfl g (xs.length * 3) rfl mkRu _ hcs9.out Tryz.underlying82 rfl hiN ?_));refine (HI.out _ (HP.out.fut hF.out)).mono ?_;rintro e w2 ⟨rfl,f2⟩;have F2:=hF.out.trans f2;clear f2;go_wp2;go_ret;exact ⟨rfl,F2⟩
theorem lt_at {M:Nat} {w:World} {A:Option Addr} {n cap:Nat} {xs:List Lt} (h:SlRep 16 M RLt w (.slice A n cap) xs) {k:Nat} (hk:k<xs.length) :
    ∃ b off A' c Al l cl Ad d cd,A=some ⟨b,off,none⟩∧(∀ j v,((xs[k]).cs (.slice A' (xs[k]).a.length c) (.slice Al l cl) (.slice Ad d cd))[j]?=some v→w.cell? ⟨b,off+k * 16+j,none⟩=some v)∧(xs[k]).a.length≤c∧c≤2932031007402 ∧
     LtC w xs[k] (.slice A' (xs[k]).a.length c) (.slice Al l cl) (.slice Ad d cd):=by
 obtain ⟨A1,cap1,hv,_,_,h3⟩:=h;obtain ⟨b,off,cs,hA,hl,hc,hr⟩:=h3 k _ (List.getElem?_eq_getElem hk);injection hv with hv _ _
 obtain ⟨A',c,Al,l,cl,Ad,d,cd,rfl,g1,g2,g3⟩:=lt_cs hr;exact ⟨b,off,A',c,Al,l,cl,Ad,d,cd,hv.trans hA,fun j v hj => by rw [Nat.add_assoc];exact hc j v hj,g1,g2,g3⟩
theorem sum_take {α:Type} (f:α→Nat) {l:List α} {k:Nat} (hk:k<l.length):((l.take (k+1)).map f).sum=((l.take k).map f).sum+f l[k]:=by
 rw [List.take_succ_eq_append_getElem hk,List.map_append,List.sum_append];simp
set_option maxHeartbeats 2000000 in
set_option maxRecDepth 100000 in
theorem ruleParts_any (x:Ru) (hv bv:Value) (w:World) (h1:SlRep 5 2513169434916 RAr w hv x.h) (h2:SlRep 16 651562446089 RLt w bv x.b) :
    Calls Tryz.prog 25 #[.agg #[.string x.p,hv,bv],.int .i64 1048576] w fun e w' => ∃ r:Nat,e = .returned (.int .i64 r)∧(r≤1048576→r=x.parts∧x.flat)∧r≤2600000000000∧Fut w w':=by
 have hP:Hid (x.parts=1+x.h.length+(x.b.map Lt.parts).sum):=Hh rfl;have hFl:Hid (x.flat=∀ y ∈ x.b,y.flat):=Hh rfl;obtain ⟨Ah,ch,rfl,hh1,hh2⟩:=h1.form;have H2:=Hh h2;obtain ⟨Ab,cb,rfl,hb1,hb2⟩:=h2.form;clear h1 h2;go_enter Tryz.func25,Tryz.ntmps25;have hw0:IntKind.i64.wrap (1+(x.h.length:Int))=((1+x.h.length:Nat):Int):=by rw [IntKind.wrap_i64];omega
 go_wp2_with fail;have hbx:=heap_alloc_new w (.cells #[.string x.p,.slice Ah x.h.length ch,.slice Ab x.b.length cb] 82);have hF0:=Fut.alloc w (.cells #[.string x.p,.slice Ah x.h.length ch,.slice Ab x.b.length cb] 82);obtain ⟨w1,hw1⟩:∃ W,w.alloc (.cells #[.string x.p,.slice Ah x.h.length ch,.slice Ab x.b.length cb] 82)=W:=⟨_,rfl⟩
 rw [hw1] at hbx hF0 ⊢;clear hw1;have F0:=Hh hF0;have HB:=Hh (cell_at hbx 2 (.slice Ab x.b.length cb) rfl);clear hbx hF0;obtain ⟨q0,hq0⟩:∃ q0,q0=1+x.h.length:=⟨_,rfl⟩
 have hq0c:(1+(x.h.length:Int))=(q0:Int):=by omega
 try rw [hq0c]
 clear hw0 hq0c;replace hq0:=Hh hq0;have hq0b:q0≤2600000000000:=by have:=hq0.out;omega
 go_loopw [5,6] (fun nn i wr => ∃ q k:Nat,k≤x.b.length∧nn = .int .i64 q∧i = .int .i64 k∧q≤2600000000000∧Hid (q≤1048576→q=q0+((x.b.take k).map Lt.parts).sum∧∀ y ∈ x.b.take k,y.flat)∧Hid (Fut w1 wr)) (fun _ i _ => x.b.length - (intOf i).toNat)
 case atStart => exact ⟨q0,0,Nat.zero_le _,rfl,rfl,hq0b,Hh (fun _ => ⟨by simp,fun y hy => by simp at hy⟩),Hh (Fut.refl _)⟩
 case round =>
  obtain ⟨q,k,hk,rfl,rfl,hqb,hI,hF⟩:=hrel;have c2:=hF.out.cell HB.out
  by_cases hlt:k<x.b.length
  ·have hltI:(k:Int)<x.b.length:=by omega
   have e0:(0:Int)≤k∧(k:Int)<x.b.length:=by omega
   by_cases hq:q≤1048576
   ·have hqI:(q:Int)≤1048576:=by omega
    obtain ⟨b,off,A',c,Al,l',cl,Ad,d',cd,rfl,hcs,g1,g2,g3⟩:=lt_at H2.out hlt;have hst:=sum_take Lt.parts hlt;have hnx:x.b.take (k+1)=x.b.take k++[x.b[k]]:=List.take_succ_eq_append_getElem hlt;have hIq:=hI.out hq;generalize x.b[k]=z at *;have HC:=Hh (g3.fut (F0.out.trans hF.out));have hF9:=Hh (F0.out.trans hF.out);have y0:wr.cell? ⟨b,off+k * 16,none⟩=some (.int .i8 z.k):=hF9.out.cell (hcs 0 _ rfl);have y1:=hF9.out.cell (hcs 1 _ rfl);have y2:=hF9.out.cell (hcs 2 _ rfl);have y3:=hF9.out.cell (hcs 3 _ rfl);have y4:=hF9.out.cell (hcs 4 _ rfl);have y5:=hF9.out.cell (hcs 5 _ rfl);have y6:=hF9.out.cell (hcs 6 _ rfl);have y7:=hF9.out.cell (hcs 7 _ rfl);have y8:=hF9.out.cell (hcs 8 _ rfl);have y9:=hF9.out.cell (hcs 9 _ rfl);have y10:=hF9.out.cell (hcs 10 _ rfl);have y11:=hF9.out.cell (hcs 11 _ rfl);have y12:=hF9.out.cell (hcs 12 _ rfl);have y13:=hF9.out.cell (hcs 13 _ rfl);have y14:=hF9.out.cell (hcs 14 _ rfl);have y15:=hF9.out.cell (hcs 15 _ rfl);clear hcs g3;obtain ⟨zk,zp,za,zr,zl,zd⟩:=z;have hsub:((1048576:Int) - q)=((1048576 - q:Nat):Int):=by omega
    have HW:=Hh (fun W (hW:Fut wr W) => literalParts_any ⟨zk,zp,za,zr,zl,zd⟩ A' c (.slice Al l' cl) (.slice Ad d' cd) (1048576 - q) W (HC.out.fut hW) g2 g1 (by omega));dsimp only [Lt.cs] at y0 y1 y2 y3 y4 y5 y6 y7 y8 y9 y10 y11 y12 y13 y14 y15;replace hst:=Hh hst;replace hnx:=Hh hnx;replace hIq:=Hh hIq;go_wp2_with fail
    try rw [hsub]
    refine (HW.out _ (Fut.refl _)).mono ?_;rintro e w3 ⟨r,rfl,hr,f3⟩;have hrl:r≤1048576 - q+1:=by rcases hr with h|h <;> omega
    have hwr:IntKind.i64.wrap ((q:Int)+r)=((q+r:Nat):Int):=by rw [IntKind.wrap_i64];omega
    have hI2:Hid (q+r≤1048576→q+r=q0+((x.b.take (k+1)).map Lt.parts).sum∧∀ y ∈ x.b.take (k+1),y.flat):=Hh fun h => by
     have h8:=hr.resolve_left (by omega);have h9:=hIq.out;rw [hst.out,hnx.out];refine ⟨by omega,fun y hy => ?_⟩;rcases List.mem_append.1 hy with hy|hy
     ·exact h9.2 y hy
     ·rw [List.mem_singleton] at hy;subst hy;exact h8.2.2
    have F3:=Hh (hF.out.trans f3);clear f3 hr;go_wp2;go_roundw
    case rel => exact ⟨q+r,k+1,by omega,by first|rfl|go_num,by go_num,by omega,hI2,F3⟩
    case measure => simp [intOf] <;> omega
   ·have hqI:¬ (q:Int)≤1048576:=by omega
    go_wp2;go_ret;exact ⟨q,rfl,fun h => absurd h hq,hqb,F0.out.trans hF.out⟩
  ·obtain rfl:k=x.b.length:=by omega
   have hres:Hid (q≤1048576→q=x.parts∧x.flat):=Hh fun h => by
    have:=hI.out h;rw [List.take_length] at this;exact ⟨by rw [hP.out,← hq0.out];exact this.1,by rw [hFl.out];exact this.2⟩
   go_wp2;go_ret;exact ⟨q,rfl,hres.out,hqb,F0.out.trans hF.out⟩
theorem ru_at {M:Nat} {w:World} {A:Option Addr} {n cap:Nat} {xs:List Ru} (h:SlRep 3 M RRu w (.slice A n cap) xs) {k:Nat} (hk:k<xs.length) :
    ∃ b off Ah ch Ab cb,A=some ⟨b,off,none⟩∧w.cell? ⟨b,off+k * 3,none⟩=some (.string (xs[k]).p)∧w.cell? ⟨b,off+k * 3+1,none⟩=some (.slice Ah (xs[k]).h.length ch)∧w.cell? ⟨b,off+k * 3+2,none⟩=some (.slice Ab (xs[k]).b.length cb) ∧
     (xs[k]).p.size≤140737488351232∧SlRep 5 2513169434916 RAr w (.slice Ah (xs[k]).h.length ch) (xs[k]).h∧SlRep 16 651562446089 RLt w (.slice Ab (xs[k]).b.length cb) (xs[k]).b:=by
 obtain ⟨A1,cap1,hv,_,_,h3⟩:=h;obtain ⟨b,off,cs,hA,hl,hc,hr⟩:=h3 k _ (List.getElem?_eq_getElem hk);injection hv with hv _ _
 obtain ⟨hv',bv,rfl,g1,g2,g3⟩:=hr;obtain ⟨Ah,ch,rfl,_,_⟩:=g2.form;obtain ⟨Ab,cb,rfl,_,_⟩:=g3.form;exact ⟨b,off,Ah,ch,Ab,cb,hv.trans hA,hc 0 _ rfl,hc 1 _ rfl,hc 2 _ rfl,g1,g2,g3⟩
def Within (l:List Ru):Prop:=(l.map Ru.parts).sum≤1048576∧∀ r ∈ l,r.flat
set_option maxHeartbeats 2000000 in
set_option maxRecDepth 100000 in
theorem beyondR_any {M:Nat} (a:Value) (l:List Ru) (w:World) (h:SlRep 3 M RRu w a l) (hM:M≤9223372036854775807) :
    Calls Tryz.prog 6 #[a] w fun e w' => ∃ b,e = .returned (.bool b)∧(b=false→Within l)∧Fut w w':=by
 have H:=Hh h;obtain ⟨A,c,rfl,hc1,hc2⟩:=h.form;clear h;go_enter Tryz.func6,Tryz.ntmps6;go_wp2_with fail;go_loopw [3,4] (fun nn i wr => ∃ q k:Nat,k≤l.length∧nn = .int .i64 q∧i = .int .i64 k∧q≤1048576∧Hid (q=((l.take k).map Ru.parts).sum∧∀ r ∈ l.take k,r.flat)∧Hid (Fut w wr)) (fun _ i _ => l.length - (intOf i).toNat)
 case atStart => exact ⟨0,0,Nat.zero_le _,rfl,rfl,Nat.zero_le _,Hh ⟨by simp,fun r hr => by simp at hr⟩,Hh (Fut.refl _)⟩
 case round =>
  obtain ⟨q,k,hk,rfl,rfl,hqb,hI,hF⟩:=hrel
  by_cases hlt:k<l.length
  ·have hltI:(k:Int)<l.length:=by omega
   have e0:(0:Int)≤k∧(k:Int)<l.length:=by omega
   obtain ⟨b,off,Ah,ch,Ab,cb,rfl,y0,y1,y2,_,g1,g2⟩:=ru_at (H.out.fut RRu.stays hF.out) hlt;have hst:=Hh (sum_take Ru.parts hlt);have hnx:Hid (l.take (k+1)=l.take k++[l[k]]):=Hh (List.take_succ_eq_append_getElem hlt);generalize l[k]=z at *;have HW:=Hh (ruleParts_any z (.slice Ah z.h.length ch) (.slice Ab z.b.length cb) wr g1 g2);clear g1 g2;go_wp2_with fail;refine HW.out.mono ?_;rintro e w3 ⟨r,rfl,hr,hrb,f3⟩;have hwr:IntKind.i64.wrap ((q:Int)+r)=((q+r:Nat):Int):=by rw [IntKind.wrap_i64];omega
   have F3:=Hh (hF.out.trans f3);clear f3
   by_cases hov:q+r > 1048576
   ·have hovI:((q:Int)+r) > 1048576:=by omega
    clear hr;go_wp2;go_ret;exact ⟨true,by first|rfl|simp,(fun h => absurd h (by decide)),F3.out⟩
   ·have hovI:¬ ((q:Int)+r) > 1048576:=by omega
    have hr':=hr (by omega)
    have hI2:Hid (q+r=((l.take (k+1)).map Ru.parts).sum∧∀ y ∈ l.take (k+1),y.flat):=Hh (by
     have h9:=hI.out;rw [hst.out,hnx.out];refine ⟨by omega,fun y hy => ?_⟩;rcases List.mem_append.1 hy with hy|hy
     ·exact h9.2 y hy
     ·rw [List.mem_singleton] at hy;subst hy;exact hr'.2)
    clear hr hr';go_wp2;go_roundw
    case rel => exact ⟨q+r,k+1,by omega,by first|rfl|go_num,by go_num,by omega,hI2,F3⟩
    case measure => simp [intOf] <;> omega
  ·obtain rfl:k=l.length:=by omega
   have hres:Within l:=by
    have:=hI.out;rw [List.take_length] at this;exact ⟨by omega,this.2⟩
   go_wp2;go_ret;exact ⟨false,rfl,fun _ => hres,hF.out⟩
def wordT (lo hi:Nat) (s:ByteArray):Bool:=decide (0<s.size) && decide (s.size≤120) && (decide (lo≤(s.data.getD 0 0).toNat) && decide ((s.data.getD 0 0).toNat≤hi)) && s.data.toList.all (fun b => letterN b.toNat)
set_option maxHeartbeats 1600000 in
set_option maxRecDepth 100000 in
theorem wordT_any (s:ByteArray) (lo hi:Nat) (w:World) (hs:s.size≤140737488351232):Calls Tryz.prog 334 #[.string s,.int .u8 lo,.int .u8 hi] w fun e w' => e = .returned (.bool (wordT lo hi s))∧Fut w w':=by
 have kc:=fun w => run_bytes_of_string (P:=Tryz.prog) w 9 427 5 s Tryz.underlying9 Tryz.underlying427 Tryz.underlying5
 have hlow:Hid (∀ (h:0<s.size),wordT lo hi s=true→lo≤s[0].toNat∧s[0].toNat≤hi∧s.size≤120):=Hh fun h hn => by
  simp [wordT] at hn;rw [show s.data[0]?.getD 0=s[0] from head_at s h] at hn;omega
 have hmk:Hid (∀ (h:0<s.size),lo≤s[0].toNat→s[0].toNat≤hi→s.size≤120→s.data.toList.all (fun b => letterN b.toNat)=true→wordT lo hi s=true):=Hh fun h h1 h2 h3 h4 => by
  unfold wordT;rw [h4];simp [h,h3,head_at s h]
  first|exact ⟨h1,h2⟩|exact fun _ => ⟨h1,h2⟩
 have hnil:Hid (s.size=0→wordT lo hi s=false):=Hh fun h => by simp [wordT,h]
 have hall:Hid (∀ k (hk:k<s.size),letterN s[k].toNat=false→wordT lo hi s=false):=Hh fun k hk h => by
  have:s.data.toList.all (fun b => letterN b.toNat)=false:=by
   rw [List.all_eq_false];exact ⟨s[k],Array.mem_toList_iff.2 (Array.getElem_mem (xs:=s.data) hk),by simp [h]⟩
  unfold wordT;rw [this];simp
 by_cases c0:s.size=0
 ·have e0:((s.size:Int) == 0)=true:=by simp [c0]
  have hr:=Hh (hnil.out c0);clear c0;go_enter Tryz.func334,Tryz.ntmps334;go_wp2;go_ret;exact ⟨by rw [hr.out];rfl,Fut.refl _⟩
 ·have hpos:0<s.size:=by omega
  have e0:((s.size:Int) == 0)=false:=by simp;intro e;subst e;simp at hpos
  clear c0
  by_cases c1:(120:Int)<s.size
  ·have hr:=Hh (show wordT lo hi s=false by
     cases hn:wordT lo hi s with
     | false => rfl
     | true => have:=hlow.out hpos hn;omega)
   go_enter Tryz.func334,Tryz.ntmps334;go_wp2;go_ret;exact ⟨by rw [hr.out];rfl,Fut.refl _⟩
  ·by_cases c2:((s[0]).toNat:Int)<lo
   ·have hr:=Hh (show wordT lo hi s=false by
      cases hn:wordT lo hi s with
      | false => rfl
      | true => have:=hlow.out hpos hn;omega)
    have c2n:s[0].toNat<lo:=by omega
    go_enter Tryz.func334,Tryz.ntmps334;go_wp2;go_ret;exact ⟨by rw [hr.out];rfl,Fut.refl _⟩
   ·by_cases c3:(hi:Int)<(s[0]).toNat
    ·have hr:=Hh (show wordT lo hi s=false by
       cases hn:wordT lo hi s with
       | false => rfl
       | true => have:=hlow.out hpos hn;omega)
     have c3n:hi<s[0].toNat:=by omega
     have c3m:¬ s[0].toNat<lo:=by omega
     go_enter Tryz.func334,Tryz.ntmps334;go_wp2;go_ret;exact ⟨by rw [hr.out];rfl,Fut.refl _⟩
    ·have hmk':=Hh (hmk.out hpos (by omega) (by omega) (by omega));have b1n:¬ s[0].toNat<lo:=by omega
     have b2n:¬ hi<s[0].toNat:=by omega
     have b0:decide ((120:Int)<s.size)=false:=by simpa using c1
     have b1:decide (((s[0]).toNat:Int)<lo)=false:=by simpa using c2
     have b2:decide ((hi:Int)<(s[0]).toNat)=false:=by simpa using c3
     clear hmk hlow hnil c1 c2 c3;go_enter Tryz.func334,Tryz.ntmps334
     have hcell:Hid (∀ cap fr k (hk:k<s.size),(w.alloc (.cells (bytesRow s cap) 5 fr)).cell? ⟨w.heap.size,k,none⟩=some (.int .u8 (s[k]).toNat)) :=
      Hh fun cap fr k hk => (World.cell?_alloc_mark _ _ _ _ _).trans (bytesRow_at s cap k hk)
     have hF:=Hh (fun o => (Fut.alloc w o).trans (Fut.drew _));go_wp2;go_loop [32] (fun i => ∃ k:Nat,k≤s.size∧i = .int .i64 k∧Hid (∀ j (hj:j<s.size),j<k→letterN (s[j]).toNat=true)) (fun i => s.size - (intOf i).toNat)
     case atStart => exact ⟨0,Nat.zero_le _,rfl,Hh (fun j _ h => absurd h (by omega))⟩
     case round =>
      obtain ⟨k,hk,rfl,hg⟩:=hrel
      by_cases hlt:k<s.size
      ·have x0:=fun cap fr => hcell.out cap fr k hlt;have hb:Hid ((s[k]).toNat<256):=Hh (UInt8.toNat_lt _)
       have hs1:=Hh (fun h:letterN (s[k]).toNat=true => (fun j hj hjk => by
        rcases Nat.lt_or_ge j k with h'|h'
        ·exact hg.out j hj h'
        ·obtain rfl:j=k:=by omega
         exact h:∀ j (hj:j<s.size),j<k+1→letterN (s[j]).toNat=true))
       have hs2:=Hh (hall.out k hlt);generalize s[k].toNat=c at *;go_wp2
       all_goals first
        | (go_ret;exact ⟨by rw [hs2.out (by (try simp only [bne_iff_ne,ne_eq,bne_eq_false_iff_eq] at *);simp [letterN];omega)];rfl,hF.out _⟩)
        | exact ⟨⟨k+1,by omega,by go_num,Hh (hs1.out (by (try simp only [bne_iff_ne,ne_eq,bne_eq_false_iff_eq] at *);simp [letterN];omega))⟩,by simp [intOf];omega⟩
      ·obtain rfl:k=s.size:=by omega
       have hr:=Hh (hmk'.out (by
        rw [List.all_eq_true];intro b hb;obtain ⟨j,hj⟩:=List.getElem?_of_mem hb;have hjl:=(List.getElem?_eq_some_iff.1 hj).1;have:=hg.out j (by simpa using hjl) (by simpa using hjl)
        have e:b=s[j]'(by simpa using hjl):=by
         have:=(List.getElem?_eq_some_iff.1 hj).2;rw [← this];rfl
        rw [e];exact this))
       go_wp2
       all_goals go_ret
       all_goals exact ⟨by rw [hr.out];first|rfl|simp,hF.out _⟩
def nameT (s:ByteArray):Bool:=!keyB s.toList && wordT 97 122 s
set_option maxHeartbeats 1600000 in
set_option maxRecDepth 100000 in
theorem nameT_any (s:ByteArray) (w:World) (hs:s.size≤140737488351232):Calls Tryz.prog 308 #[.string s] w fun e w' => e = .returned (.bool (nameT s))∧Fut w w':=by
 have HW:=Hh (wordT_any s 97 122 w hs);obtain ⟨b,hb⟩:∃ b,nameT s=b:=⟨_,rfl⟩
 rw [hb];replace hb:=Hh hb;go_enter Tryz.func308,Tryz.ntmps308;go_wp2_with fail
 all_goals first
  | (go_ret;refine ⟨?_,Fut.refl _⟩;rw [← hb.out];unfold nameT keyB;simp_all;done)
  | (refine HW.out.mono ?_;rintro e w1 ⟨rfl,f1⟩;obtain ⟨c,hc⟩:∃ c,wordT 97 122 s=c:=⟨_,rfl⟩;rw [hc];have hbc:c=b:=(by rw [← hb.out,← hc];unfold nameT keyB;simp_all);subst hbc;clear hb hc;go_wp2;go_ret;exact ⟨rfl,f1⟩)
def Tm.zero (t:Tm):Bool:=decide (t.v.toList=[]) && decide (t.x.k=0) && decide (t.x.n=0) && decide (t.x.s.toList=[])
set_option maxHeartbeats 400000 in
theorem codeT_any (b:Bool) (w:World):Calls Tryz.prog 311 #[.bool b] w fun e w' => e = .returned (.int .i64 (if b then 0 else 40))∧w'=w:=by
 cases b
 ·go_enter Tryz.func311,Tryz.ntmps311;go_wp2;go_ret;exact ⟨rfl,rfl⟩
 ·go_enter Tryz.func311,Tryz.ntmps311;go_wp2;go_ret;exact ⟨rfl,rfl⟩
set_option maxHeartbeats 800000 in
theorem noneT_any (t:Tm) (w:World):Calls Tryz.prog 336 #[.agg #[.string t.v,.int .i8 t.x.k,.int .i64 t.x.n,.string t.x.s]] w fun e w' => e = .returned (.bool t.zero)∧Fut w w':=by
 obtain ⟨b,hb⟩:∃ b,t.zero=b:=⟨_,rfl⟩
 rw [hb];replace hb:=Hh hb;obtain ⟨v,k,n,s⟩:=t;go_enter Tryz.func336,Tryz.ntmps336;go_wp2
 all_goals (go_ret;refine ⟨?_,Fut.alloc _ _⟩;have h9:=hb.out;simp_all [Tm.zero])
theorem chk_or (k n:Int) (s:ByteArray):chk k n s=0∨chk k n s=10:=by
 unfold chk
 split
 ·exact .inl rfl
 ·split
  ·exact .inl rfl
  ·exact .inr rfl
def Tm.good (t:Tm):Bool:=if t.v.toList=[] then decide (chk t.x.k t.x.n t.x.s=0) else (decide (t.x.k=0) && decide (t.x.n=0) && decide (t.x.s.toList=[])) && (decide (t.v.toList=[95]) || wordT 65 90 t.v)
set_option maxHeartbeats 1600000 in
set_option maxRecDepth 100000 in
theorem checkT_any (t:Tm) (w:World) (ht:t.ok):Calls Tryz.prog 352 #[.agg #[.string t.v,.int .i8 t.x.k,.int .i64 t.x.n,.string t.x.s]] w fun e w' => e = .returned (.int .i64 (if t.good=true then 0 else 40))∧Fut w w':=by
 have HW:=Hh (fun W => wordT_any t.v 65 90 W ht.1);have HC:=Hh (fun W => check_any t.x.k t.x.n t.x.s W ht.2.2.2);have hchk:=Hh (chk_or t.x.k t.x.n t.x.s);obtain ⟨b,hb⟩:∃ b,t.good=b:=⟨_,rfl⟩
 rw [hb];replace hb:=Hh hb;obtain ⟨v,k,n,s⟩:=t;clear ht
 by_cases hv:v.toList=[]
 ·by_cases hc:chk k n s=0
  ·obtain rfl:b=true:=by rw [← hb.out];simp [Tm.good,hv,hc]
   go_enter Tryz.func352,Tryz.ntmps352;go_wp2_with fail;refine (HC.out _).mono ?_;rintro e w1 ⟨rfl,f1⟩;dsimp only;rw [hc];go_wp2_with fail;refine (codeT_any _ _).mono ?_;rintro e w2 ⟨rfl,rfl⟩;go_wp2;go_ret;exact ⟨rfl,(Fut.alloc _ _).trans f1⟩
  ·have hc10:chk k n s=10:=hchk.out.resolve_left hc;obtain rfl:b=false:=by rw [← hb.out];simp [Tm.good,hv,hc]
   go_enter Tryz.func352,Tryz.ntmps352;go_wp2_with fail;refine (HC.out _).mono ?_;rintro e w1 ⟨rfl,f1⟩;dsimp only;rw [hc10];go_wp2_with fail;refine (codeT_any _ _).mono ?_;rintro e w2 ⟨rfl,rfl⟩;go_wp2;go_ret;exact ⟨rfl,(Fut.alloc _ _).trans f1⟩
 ·have hvb:(v.toList == [])=false:=by rw [beq_eq_false_iff_ne];exact hv
  by_cases hx:k=0∧n=0∧s.toList=[]
  ·obtain ⟨rfl,rfl,hs0⟩:=hx
   by_cases hu:v.toList=[95]
   ·obtain rfl:b=true:=by rw [← hb.out];simp [Tm.good,hs0,hu]
    go_enter Tryz.func352,Tryz.ntmps352;go_wp2_with fail;refine (codeT_any _ _).mono ?_;rintro e w2 ⟨rfl,rfl⟩;go_wp2;go_ret;exact ⟨rfl,Fut.alloc _ _⟩
   ·have hub:(v.toList == [95])=false:=by rw [beq_eq_false_iff_ne];exact hu
    have hbw:wordT 65 90 v=b:=by rw [← hb.out];simp [Tm.good,hs0,hu,hv]
    dsimp only at HW;rw [hbw] at HW;clear hb hbw;cases b
    ·go_enter Tryz.func352,Tryz.ntmps352;go_wp2_with fail;refine (HW.out _).mono ?_;rintro e w1 ⟨rfl,f1⟩;go_wp2_with fail;refine (codeT_any _ _).mono ?_;rintro e w2 ⟨rfl,rfl⟩;go_wp2;go_ret;exact ⟨rfl,(Fut.alloc _ _).trans f1⟩
    ·go_enter Tryz.func352,Tryz.ntmps352;go_wp2_with fail;refine (HW.out _).mono ?_;rintro e w1 ⟨rfl,f1⟩;go_wp2_with fail;refine (codeT_any _ _).mono ?_;rintro e w2 ⟨rfl,rfl⟩;go_wp2;go_ret;exact ⟨rfl,(Fut.alloc _ _).trans f1⟩
  ·have hxb:(decide (k=0) && decide (n=0) && decide (s.toList=[]))=false:=by
     rw [Bool.eq_false_iff];intro h;simp at h;exact hx ⟨h.1.1,h.1.2,h.2⟩
   obtain rfl:b=false:=by rw [← hb.out];unfold Tm.good;rw [if_neg hv];dsimp only;rw [hxb];rfl
   go_enter Tryz.func352,Tryz.ntmps352;go_wp2_with fail
   all_goals first
    | (exfalso;apply hx;refine ⟨?_,?_,?_⟩ <;> first|rfl|assumption)
    | (refine (codeT_any _ _).mono ?_;rintro e w2 ⟨rfl,rfl⟩;go_wp2;go_ret;exact ⟨rfl,Fut.alloc _ _⟩)
def Tm.solid (t:Tm):Bool:=!decide (t.v.toList=[95]) && t.good
set_option maxHeartbeats 1600000 in
set_option maxRecDepth 100000 in
theorem solidT_any (t:Tm) (w:World) (ht:t.ok):Calls Tryz.prog 335 #[.agg #[.string t.v,.int .i8 t.x.k,.int .i64 t.x.n,.string t.x.s]] w fun e w' => e = .returned (.bool t.solid)∧Fut w w':=by
 have HC:=Hh (fun W => checkT_any t W ht);obtain ⟨b,hb⟩:∃ b,t.solid=b:=⟨_,rfl⟩
 rw [hb];obtain ⟨g,hg⟩:∃ g,t.good=g:=⟨_,rfl⟩
 rw [hg] at HC;unfold Tm.solid at hb;rw [hg] at hb;obtain ⟨v,k,n,s⟩:=t;dsimp only at hb HC;clear hg ht
 by_cases hu:v.toList=[95]
 ·obtain rfl:b=false:=by rw [← hb];simp [hu]
  clear hb;go_enter Tryz.func335,Tryz.ntmps335;go_wp2;go_ret;exact ⟨by first|rfl|simp,Fut.alloc _ _⟩
 ·have hub:(v.toList == [95])=false:=by rw [beq_eq_false_iff_ne];exact hu
  obtain rfl:b=g:=by rw [← hb];simp [hu]
  clear hb;cases b
  ·go_enter Tryz.func335,Tryz.ntmps335;go_wp2_with fail;refine (HC.out _).mono ?_;rintro e w1 ⟨rfl,f1⟩;go_wp2;go_ret;exact ⟨by first|rfl|simp,(Fut.alloc _ _).trans f1⟩
  ·go_enter Tryz.func335,Tryz.ntmps335;go_wp2_with fail;refine (HC.out _).mono ?_;rintro e w1 ⟨rfl,f1⟩;go_wp2;go_ret;exact ⟨by first|rfl|simp,(Fut.alloc _ _).trans f1⟩
def Ex.empty (x:Ex):Bool:=decide (x.op=0) && x.t.zero && decide (x.kids.length=0)
set_option maxHeartbeats 1600000 in
set_option maxRecDepth 100000 in
theorem emptyT_any (x:Ex) (A:Option Addr) (c:Nat) (w:World):Calls Tryz.prog 337 #[.agg (x.cs (.slice A x.kids.length c)).toArray] w fun e w' => e = .returned (.bool x.empty)∧Fut w w':=by
 have HN:=Hh (fun W => noneT_any x.t W);obtain ⟨b,hb⟩:∃ b,x.empty=b:=⟨_,rfl⟩
 rw [hb];unfold Ex.empty at hb;unfold Ex.cs;generalize x.t.zero=z at *;generalize x.kids.length=n at *;generalize x.op=o at *;generalize x.t=t at *;replace hb:=Hh hb
 by_cases ho:o=0
 ·subst ho;cases z
  ·obtain rfl:b=false:=by rw [← hb.out];simp
   go_enter Tryz.func337,Tryz.ntmps337;go_wp2_with fail;refine (HN.out _).mono ?_;rintro e w1 ⟨rfl,f1⟩;go_wp2;go_ret;exact ⟨by first|rfl|simp,(Fut.alloc _ _).trans f1⟩
  ·by_cases hn:n=0
   ·subst hn;obtain rfl:b=true:=by rw [← hb.out];simp
    go_enter Tryz.func337,Tryz.ntmps337;go_wp2_with fail;have hbx:=heap_alloc_new w (.cells #[.int .i8 0,.string t.v,.int .i8 t.x.k,.int .i64 t.x.n,.string t.x.s,.slice A 0 c] 118);refine (HN.out _).mono ?_;rintro e w1 ⟨rfl,f1⟩;have y5:=cell_at (f1.block hbx) 5 (.slice A 0 c) rfl;go_wp2;go_ret;exact ⟨by first|rfl|simp,(Fut.alloc _ _).trans f1⟩
   ·obtain rfl:b=false:=by rw [← hb.out];simp [hn]
    have hnI:((n:Int) == 0)=false:=by rw [beq_eq_false_iff_ne];omega
    have hnJ:¬ (n:Int)=0:=by omega
    go_enter Tryz.func337,Tryz.ntmps337;go_wp2_with fail;have hbx:=heap_alloc_new w (.cells #[.int .i8 0,.string t.v,.int .i8 t.x.k,.int .i64 t.x.n,.string t.x.s,.slice A n c] 118);refine (HN.out _).mono ?_;rintro e w1 ⟨rfl,f1⟩;have y5:=cell_at (f1.block hbx) 5 (.slice A n c) rfl;go_wp2;go_ret;exact ⟨by first|rfl|simp,(Fut.alloc _ _).trans f1⟩
 ·obtain rfl:b=false:=by rw [← hb.out];simp [ho]
  have hoI:(o == 0)=false:=by rw [beq_eq_false_iff_ne];exact ho
  go_enter Tryz.func337,Tryz.ntmps337;go_wp2;go_ret;exact ⟨by first|rfl|simp,Fut.alloc _ _⟩
def Ar.good (a:Ar):Bool:=if a.g=0 then a.t.solid else if a.g=1 then a.t.zero else if a.g=2∨a.g=3∨a.g=4 then !decide (a.t.v.toList=[]) && a.t.solid else false
set_option maxHeartbeats 1600000 in
set_option maxRecDepth 100000 in
theorem argT_any (a:Ar) (w:World) (ht:a.t.ok):Calls Tryz.prog 309 #[.agg #[.int .i8 a.g,.string a.t.v,.int .i8 a.t.x.k,.int .i64 a.t.x.n,.string a.t.x.s]] w fun e w' => e = .returned (.bool a.good)∧Fut w w':=by
 have HN:=Hh (fun W => noneT_any a.t W);have HS:=Hh (fun W => solidT_any a.t W ht);obtain ⟨b,hb⟩:∃ b,a.good=b:=⟨_,rfl⟩
 rw [hb];unfold Ar.good at hb;generalize a.t.zero=z at *;generalize a.t.solid=s at *;replace hb:=Hh hb;obtain ⟨g,t⟩:=a;dsimp only at hb HN HS ⊢;clear ht
 by_cases h0:g=0
 ·subst h0;obtain rfl:b=s:=by rw [← hb.out];simp
  go_enter Tryz.func309,Tryz.ntmps309;go_wp2_with fail;refine (HS.out _).mono ?_;rintro e w1 ⟨rfl,f1⟩;go_wp2;go_ret;exact ⟨by first|rfl|simp,(Fut.alloc _ _).trans f1⟩
 by_cases h1:g=1
 ·subst h1;obtain rfl:b=z:=by rw [← hb.out];simp
  go_enter Tryz.func309,Tryz.ntmps309;go_wp2_with fail;refine (HN.out _).mono ?_;rintro e w1 ⟨rfl,f1⟩;go_wp2;go_ret;exact ⟨by first|rfl|simp,(Fut.alloc _ _).trans f1⟩
 by_cases hg:g=2∨g=3∨g=4
 ·by_cases hv:t.v.toList=[]
  ·obtain rfl:b=false:=by rw [← hb.out];rcases hg with rfl|rfl|rfl <;> simp [hv]
   rcases hg with rfl|rfl|rfl
   all_goals
    go_enter Tryz.func309,Tryz.ntmps309;go_wp2;go_ret;exact ⟨by first|rfl|simp,Fut.alloc _ _⟩
  ·have hvb:(t.v.toList == [])=false:=by rw [beq_eq_false_iff_ne];exact hv
   obtain rfl:b=s:=by rw [← hb.out];rcases hg with rfl|rfl|rfl <;> simp [hv]
   clear hb;rcases hg with rfl|rfl|rfl <;> cases b
   all_goals
    go_enter Tryz.func309,Tryz.ntmps309;go_wp2_with fail;refine (HS.out _).mono ?_;rintro e w1 ⟨rfl,f1⟩;go_wp2;go_ret;exact ⟨by first|rfl|simp,(Fut.alloc _ _).trans f1⟩
 ·obtain rfl:b=false:=by rw [← hb.out,if_neg h0,if_neg h1,if_neg hg]
  have g2:¬ g=2:=fun h => hg (.inl h);have g3:¬ g=3:=fun h => hg (.inr (.inl h));have g4:¬ g=4:=fun h => hg (.inr (.inr h));go_enter Tryz.func309,Tryz.ntmps309;go_wp2;go_ret;exact ⟨by first|rfl|simp,Fut.alloc _ _⟩
def arityE (op:Int):Int:=if op=1∨op=8∨op=9∨op=10 then 1 else if op=2∨op=3∨op=4∨op=5∨op=6∨op=7 then 2 else -1
set_option maxHeartbeats 1600000 in
theorem arityT_any (op:Int) (w:World):Calls Tryz.prog 364 #[.int .i8 op] w fun e w' => e = .returned (.int .i64 (arityE op))∧w'=w:=by
 obtain ⟨r,hr⟩:∃ r,arityE op=r:=⟨_,rfl⟩
 rw [hr];replace hr:=Hh hr;go_enter Tryz.func364,Tryz.ntmps364;go_wp2
 all_goals (go_ret;refine ⟨?_,rfl⟩;have h9:=hr.out;unfold arityE at h9;simp_all)
def deepE:Nat→Ex→Bool
 | 0,_ => false
 | n+1,x => if x.op=0 then decide (x.kids.length=0) && x.t.solid else x.t.zero && decide ((x.kids.length:Int)=arityE x.op) && x.kids.all (deepE n)
def DeepOk (n:Nat):Prop:=∀ (x:Ex) (A:Option Addr) (c m:Nat) (W:World),RE m W (x.cs (.slice A x.kids.length c)) x→Calls Tryz.prog 355 #[.agg (x.cs (.slice A x.kids.length c)).toArray,.int .i64 n] W fun e w' => e = .returned (.bool (deepE n x))∧Fut W w'
set_option maxHeartbeats 1600000 in
theorem deep1_any {n:Nat} (IH:DeepOk n) (hn:n<1000) (x:Ex) (A:Option Addr) (c m:Nat) (p:Nat) (w:World) (h:RE m w (x.cs (.slice A x.kids.length c)) x) (hp:w.cell? ⟨p,0,none⟩=some (.int .i64 ((n+1:Nat):Int))) :
    Calls Tryz.prog 366 #[.agg (x.cs (.slice A x.kids.length c)).toArray,.pointer (some ⟨p,0,none⟩)] w fun e w' => e = .returned (.bool (!deepE n x))∧Fut w w':=by
 have HI:=Hh (fun W (hW:Fut w W) => IH x A c m W (RE.stays m _ _ _ _ hW h));obtain ⟨b,hb⟩:∃ b,deepE n x=b:=⟨_,rfl⟩
 rw [hb] at HI ⊢;clear IH h hb;unfold Ex.cs at HI ⊢;generalize x.kids.length=l at *;generalize x.op=o at *;generalize x.t=t at *;have hsub:(((n+1:Nat):Int) - 1)=(n:Int):=by omega
 have hwr:IntKind.i64.wrap (n:Int)=n:=by rw [IntKind.wrap_i64];omega
 cases b
 ·go_enter Tryz.func366,Tryz.ntmps366;have hp1:=fun o => (Fut.alloc w o).cell hp;go_wp2_with fail;refine (HI.out _ (Fut.alloc _ _)).mono ?_;rintro e w1 ⟨rfl,f1⟩;go_wp2;go_ret;exact ⟨by first|rfl|simp,(Fut.alloc _ _).trans f1⟩
 ·go_enter Tryz.func366,Tryz.ntmps366;have hp1:=fun o => (Fut.alloc w o).cell hp;go_wp2_with fail;refine (HI.out _ (Fut.alloc _ _)).mono ?_;rintro e w1 ⟨rfl,f1⟩;go_wp2;go_ret;exact ⟨by first|rfl|simp,(Fut.alloc _ _).trans f1⟩
set_option maxHeartbeats 1600000 in
set_option maxRecDepth 100000 in
theorem idxE_any {n m M:Nat} (IH:DeepOk n) (hn:n<1000) (A:Option Addr) (c:Nat) (xs:List Ex) (p:Nat) (w:World) (h:SlRep 6 M (RX0 m w) w (.slice A xs.length c) xs) (hM:M≤9223372036854775807) (hp:w.cell? ⟨p,0,none⟩=some (.int .i64 ((n+1:Nat):Int))) :
    Calls Tryz.prog 367 #[.slice A xs.length c,.func (.func 366) #[] #[.pointer (some ⟨p,0,none⟩)]] w fun e w' => ∃ r:Int,e = .returned (.int .i64 r)∧decide (0≤r)=!xs.all (deepE n)∧Fut w w':=by
 have H:=Hh h;obtain ⟨_,_,hv,hl1,hl2⟩:=h.form;have hxl:xs.length≤9223372036854775807:=by omega
 clear h hv hl1 hl2;go_enter Tryz.func367,Tryz.ntmps367;go_wp2_with fail;go_loopw [8] (fun i wr => ∃ k:Nat,k≤xs.length∧i = .int .i64 k∧Hid (∀ x ∈ xs.take k,deepE n x=true)∧Hid (Fut w wr)) (fun i _ => xs.length - (intOf i).toNat)
 case atStart => exact ⟨0,Nat.zero_le _,rfl,Hh (fun x hx => by simp at hx),Hh (Fut.refl _)⟩
 case round =>
  obtain ⟨k,hk,rfl,hI,hF⟩:=hrel
  by_cases hlt:k<xs.length
  ·have hltI:(k:Int)<xs.length:=by omega
   have e0:(0:Int)≤k∧(k:Int)<xs.length:=by omega
   obtain ⟨b,off,m',op,t,ks,A',c',rfl,hm',hxk,y0,y1,y2,y3,y4,y5,hc1,hc2,hks,hre⟩:=ex_at (H.out.fut RX0.stays hF.out) hlt;have hnx:Hid (xs.take (k+1)=xs.take k++[xs[k]]):=Hh (List.take_succ_eq_append_getElem hlt);have hmem:xs[k] ∈ xs:=List.getElem_mem hlt;have HD:=Hh (fun W (hW:Fut w W) => deep1_any IH hn (Ex.mk op t ks) A' c' m p W (RE.stays m _ _ _ _ hW (by have h9:=hre;rw [hxk] at h9;exact h9)) (hW.cell hp));rw [hxk] at hnx hmem;clear hm' hxk hre hks;obtain ⟨d,hd⟩:∃ d,deepE n (Ex.mk op t ks)=d:=⟨_,rfl⟩
   have hd':=Hh hd;simp only [hd] at HD;clear hd;cases d
   ·go_wp2_with fail;refine (HD.out _ hF.out).mono ?_;rintro e w3 ⟨rfl,f3⟩;go_wp2;go_ret
    exact ⟨k,rfl,by
     have h9:xs.all (deepE n)=false:=by
      rw [List.all_eq_false];exact ⟨_,hmem,by rw [hd'.out];decide⟩
     rw [h9];simp,hF.out.trans f3⟩
   ·go_wp2_with fail;refine (HD.out _ hF.out).mono ?_;rintro e w3 ⟨rfl,f3⟩;have F3:=Hh (hF.out.trans f3)
    have hI2:Hid (∀ x ∈ xs.take (k+1),deepE n x=true):=Hh fun x hx => by
     rw [hnx.out,List.mem_append] at hx;rcases hx with hx|hx
     ·exact hI.out x hx
     ·rw [List.mem_singleton] at hx;subst hx;exact hd'.out
    clear f3;go_wp2;go_roundw
    case rel => exact ⟨k+1,by omega,by go_num,hI2,F3⟩
    case measure => simp [intOf] <;> omega
  ·obtain rfl:k=xs.length:=by omega
   rw [List.take_length] at hI;go_wp2;go_ret
   exact ⟨-1,rfl,by
    have h9:xs.all (deepE n)=true:=List.all_eq_true.2 hI.out;rw [h9];decide,hF.out⟩
end Go.Proofs.YtobabnpllokkaaaGreatDoor
