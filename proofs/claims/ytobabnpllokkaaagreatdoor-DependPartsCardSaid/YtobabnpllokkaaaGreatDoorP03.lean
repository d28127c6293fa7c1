/- Parts. -/
import Derived.Test.YtobabnpllokkaaaGreatDoorP02
import Derived.Test.YtobabnpllokkaaaGreatDoorP00
set_option linter.unusedSimpArgs false
set_option linter.unusedVariables false
namespace Go.Proofs.YtobabnpllokkaaaGreatDoor
open Go.RowKit
theorem blk_one {w:World} {g sz:Nat} {t:TypeId} {z cs:List Value} (h:BlkF w g t sz (cellsAt [cs] z sz)) (hl:cs.length=sz):w.heap[g]?=some (.cells cs.toArray t (0,0)):=by
 obtain ⟨arr,h1,h2,h3⟩:=h;rw [h1];congr 2;refine Array.ext_getElem? fun j => ?_
 by_cases hj:j<sz
 ·rw [h3 j hj];unfold cellsAt;rw [Nat.div_eq_of_lt hj,Nat.mod_eq_of_lt hj];have:j<cs.length:=by omega
  simp [List.getD,this]
 ·rw [Array.getElem?_eq_none (by omega),Array.getElem?_eq_none (by simp;omega)]
theorem blk_zero (w:World) (z:List Value) (t:TypeId) (hz:0<z.length):BlkF (w.alloc (.cells z.toArray t)) w.heap.size t z.length (cellsAt [] z z.length) :=
 ⟨z.toArray,heap_alloc_new w _,by simp,fun j hj => by
  rw [cellsAt_nil,Nat.mod_eq_of_lt hj];simp [List.getD,hj]⟩
def Ar.cells (a:Ar):List Value:=.int .i8 a.g :: a.t.cells
theorem sl_row {α:Type} {sz M:Nat} {R:World→List Value→α→Prop} {w:World} {A:Option Addr} {n cap:Nat} {xs:List α} (h:SlRep sz M R w (.slice A n cap) xs) {k:Nat} (hk:k<xs.length) :
    ∃ b off cs,A=some ⟨b,off,none⟩∧R w cs xs[k]∧cs.length=sz∧∀ j v,cs[j]?=some v→w.cell? ⟨b,off+k * sz+j,none⟩=some v:=by
 obtain ⟨A1,cap1,hv,_,_,h3⟩:=h;obtain ⟨b,off,cs,hA,hl,hc,hr⟩:=h3 k _ (List.getElem?_eq_getElem hk);injection hv with hv _ _
 exact ⟨b,off,cs,hv.trans hA,hr,hl,fun j v hj => by rw [Nat.add_assoc];exact hc j v hj⟩
theorem take_map {α β:Type} {l:List α} {k:Nat} (hk:k<l.length) (f:α→β):(l.take (k+1)).map f=(l.take k).map f++[f l[k]]:=by
 rw [List.take_succ_eq_append_getElem hk,List.map_append];rfl
theorem Tm.one (t:Tm):∀ v ∈ t.cells,v.oneCell'=true:=fun v hv => by
 unfold Tm.cells at hv;simp only [List.mem_cons,List.not_mem_nil,or_false] at hv;rcases hv with rfl|rfl|rfl|rfl <;> rfl
theorem Ar.one (t:Ar):∀ v ∈ t.cells,v.oneCell'=true:=fun v hv => by
 unfold Ar.cells Tm.cells at hv;simp only [List.mem_cons,List.not_mem_nil,or_false] at hv;rcases hv with rfl|rfl|rfl|rfl|rfl <;> rfl
theorem RTm.cs {w:World} {cs:List Value} {t:Tm} (h:RTm w cs t):cs=t.cells:=h.1
theorem RAr.cs {w:World} {cs:List Value} {t:Ar} (h:RAr w cs t):cs=t.cells:=h.1
def zTm:List Value:=[.string ⟨#[]⟩,.int .i8 0,.int .i64 0,.string ⟨#[]⟩]
def mkTm:List Value:=[.string wordS,.int .i8 0,.int .i64 0,.string ⟨#[]⟩]
def zAr:List Value:=[.int .i8 0,.string ⟨#[]⟩,.int .i8 0,.int .i64 0,.string ⟨#[]⟩]
def mkAr:List Value:=[.int .i8 0,.string wordS,.int .i8 0,.int .i64 0,.string ⟨#[]⟩]
theorem infoTm4:(Tryz.prog.info? 115).map (fun i => (i.zero,i.size,i.bytes))=some (some (.agg zTm.toArray),4,48):=by kernel_rfl
theorem infoAr5:(Tryz.prog.info? 190).map (fun i => (i.zero,i.size,i.bytes))=some (some (.agg zAr.toArray),5,56):=by kernel_rfl
theorem infoTmN:(Tryz.prog.info? 115).map (·.size)=some 4:=by kernel_rfl
theorem infoArN:(Tryz.prog.info? 190).map (·.size)=some 5:=by kernel_rfl
set_option maxHeartbeats 1000000 in
theorem markTm_any (w:World) (hP:Pows w):Calls Tryz.prog 106 #[.int .i64 777777] w fun e w' => e = .returned (.agg mkTm.toArray)∧Fut w w':=by
 have HW:=Hh (fun w hP => word_any' w hP);have hb0:=Hh (blk_zero w zTm 115 (by decide));have f0:=Fut.alloc w (.cells zTm.toArray 115);unfold mkTm;generalize wordS=t at HW ⊢;go_enter Tryz.func106,Tryz.ntmps106;go_wp2_with fail;refine (HW.out _ (hP.fut f0)).mono ?_;rintro e w1 ⟨rfl,h1⟩;have hb1:=Hh (hb0.out.fut h1);have F1:=Hh (f0.trans h1);clear h1 f0;have hi3:=infoTmN;go_wp2_with (first|(show wpList _ _ _ (Oper.mk _ (Op.store _ _ _) _ _ _ _ :: _) _ _;refine wpList_storeK ([.string t,.int .i8 0,.int .i64 0,.string ⟨#[]⟩]:List Value) rfl _ _ _ rfl rfl rfl hb1.out (fun c hc => (by cases hc)) rfl (by decide) rfl (by decide) hi3 (by intro v hv;simp only [List.mem_cons,List.not_mem_nil,or_false] at hv;rcases hv with (rfl|rfl|rfl|rfl) <;> rfl) ?_;intro w2 hB2 hO2));have hb2:=blk_one hB2 rfl;have OW:Fut w w2:=((Only.fut (S:=fun k => k=w.heap.size) F1.out).trans hO2).toFut fun k hk => by omega
 refine bodyPost_ret (v:=.agg ([.string t,.int .i8 0,.int .i64 0,.string ⟨#[]⟩]:List Value).toArray) (results_cell_row rfl _ _ w.heap.size _ ([.string t,.int .i8 0,.int .i64 0,.string ⟨#[]⟩]:List Value).toArray _ _ rfl hb2 Tryz.underlying115 rfl hi3) rfl ?_;exact ⟨rfl,OW⟩
set_option maxHeartbeats 1000000 in
theorem isTm_any (w:World) (hP:Pows w):Calls Tryz.prog 220 #[.agg mkTm.toArray,.int .i64 777777] w fun e w' => e = .returned (.bool true)∧Fut w w':=by
 have HP:=Hh hP;have HW:=Hh (fun w hP => word_any' w hP);unfold mkTm;generalize wordS=t at HW ⊢;have hbx:=heap_alloc_new w (.cells ([.string t,.int .i8 0,.int .i64 0,.string ⟨#[]⟩]:List Value).toArray 115);have c0:=cell_at hbx 0 _ rfl;have c1:=cell_at hbx 1 _ rfl;have c2:=cell_at hbx 2 _ rfl;have c3:=cell_at hbx 3 _ rfl
 skip
 clear hbx;go_enter Tryz.func220,Tryz.ntmps220;go_wp2;refine wp_graph 6 [.d,.d,.d,.d,.d,.d] (by kernel_rfl) (by kernel_rfl) (by kernel_rfl) ?_;simp only [takS,Exs]
 iterate 6 apply Exists.intro
 apply Run.valG (wanted_none rfl _)
 ·intro w1 h1 hk;have q0:=h1.cell c0;have q1:=h1.cell c1;have q2:=h1.cell c2;have q3:=h1.cell c3;have hcw:=fun b o => Below.cell (p:=⟨b,o,none⟩) h1;go_simp;rfl
 simp only [actS];apply Run.valG (wanted_none rfl _)
 ·intro w1 h1 hk;go_simp;rfl
 simp only [actS];apply Run.call (wanted_none rfl _) (fun _ _ => by go_simp;exact ⟨rfl,rfl⟩)
 ·intro w1 h1 hk;have q0:=h1.cell c0;have q1:=h1.cell c1;have q2:=h1.cell c2;have q3:=h1.cell c3;exact HW.out _ (HP.out.fut (((Fut.alloc _ _).trans (Fut.drew _)).trans h1))
 simp only [actS];apply Run.valG (wanted_none rfl _)
 ·intro w1 h1 hk;have q0:=h1.cell c0;have q1:=h1.cell c1;have q2:=h1.cell c2;have q3:=h1.cell c3;have hcw:=fun b o => Below.cell (p:=⟨b,o,none⟩) h1;go_simp;rfl
 simp only [actS]
 iterate 2
  apply Run.valG (wanted_none rfl _)
  ·intro w1 h1 hk;go_simp;rfl
  simp only [actS]
 apply Run.done;intro w2 h2 hk;clear hk;go_wp2;go_ret;exact ⟨by first|rfl|simp,(Fut.alloc _ _).trans ((Fut.drew _).trans h2)⟩
abbrev TwTm:Nat→World→Value→List Tm→Prop:=TwinE 4 115 zTm (fun _ _ cs x => cs=Tm.cells x) (fun _ cs => cs=mkTm)
theorem TwTm.keep {B:Nat} {w w':World} {v:Value} {xs:List Tm} (h:TwTm B w v xs) (hf:Fut w w'):TwTm B w' v xs:=TwinE.fut (fun _ _ _ _ _ _ h => h) (fun _ _ _ _ h => h) h hf
set_option maxHeartbeats 2000000 in
theorem twinTm_any {M:Nat} (A:Option Addr) (c:Nat) (xs:List Tm) (w:World) (hP:Pows w) (h:SlRep 4 M RTm w (.slice A xs.length c) xs) (hn:xs.length≤100000000) :
    Calls Tryz.prog 290 #[.slice A xs.length c] w fun e w' => ∃ v,e = .returned v∧TwTm w.heap.size w' v xs∧Fut w w':=by
 obtain ⟨i0,hi0,hz0,hz1,hz2⟩:=info_parts infoTm4
 have hmk:∀ W:World,(Instr.makeSlice 106 (.int .i64 ((xs.length:Int)+1)) (.int .i64 ((xs.length:Int)+1))).run Tryz.prog W =
     .ok (.slice (some ⟨W.heap.size,0,none⟩) (xs.length+1) (xs.length+1)) (W.alloc (.cells (madeCells zTm.toArray ((xs.length+1) * 4)) 115)):=fun W => by
  have:=run_make_rowN (P:=Tryz.prog) 106 115 i0 _ Tryz.underlying106 hi0 hz0 .i64 .i64 (xs.length+1) (xs.length+1) (Nat.le_refl _) (by rw [hz2];omega) (by omega) W;rw [hz1] at this;exact this
 have HB0:=Hh (blk_madeK w zTm (xs.length+1) 115 (by decide));have F0:=Hh (Fut.alloc w (.cells (madeCells zTm.toArray ((xs.length+1) * 4)) 115));have H:=Hh h;have HP:=Hh hP;have hxl:xs.length≤9223372036854775807:=by omega
 have hiN:=infoTmN;clear h hP hi0 hz0 hz1 hz2;go_enter Tryz.func290,Tryz.ntmps290;go_wp2;go_loopw [4] (fun i wr => ∃ k:Nat,k≤xs.length∧i = .int .i64 k∧Hid (BlkF wr w.heap.size 115 ((xs.length+1) * 4) (cellsAt ((xs.take k).map Tm.cells) zTm 4))∧Hid (Fut w wr)) (fun i _ => xs.length - (intOf i).toNat)
 case atStart => exact ⟨0,Nat.zero_le _,rfl,HB0,F0⟩
 case round =>
  obtain ⟨k,hk,rfl,hB,hF⟩:=hrel;have hlen:((xs.take k).map Tm.cells).length=k:=by rw [List.length_map,List.length_take,Nat.min_eq_left hk]
  have hall:∀ c ∈ (xs.take k).map Tm.cells,c.length=4:=fun c hc => by
   obtain ⟨x,_,rfl⟩:=List.mem_map.1 hc;rfl
  by_cases hlt:k<xs.length
  ·have hltI:(k:Int)<xs.length:=by omega
   have e0:(0:Int)≤k∧(k:Int)<xs.length:=by omega
   have e1:(0:Int)≤k∧(k:Int)<xs.length+1:=by omega
   obtain ⟨b',off,cs,rfl,hr,_,hcs⟩:=sl_row (H.out.fut RTm.stays hF.out) hlt;obtain rfl:=hr.cs;have hnx:=Hh (take_map hlt Tm.cells);have hone:=(xs[k]).one;generalize xs[k]=z at *;have hcs9:=Hh hcs;have hall9:=Hh hall;have hlen9:=Hh hlen;clear hcs hr hall hlen;go_wp2_with (first|(show wpList _ _ _ (Oper.mk _ (Op.load _ _) _ _ _ _ :: _) _ _;refine wpList_load_mid rfl _ _ rfl b' (off+k * 4) rfl (Tm.cells z) _ hcs9.out Tryz.underlying115 rfl hiN ?_)|(show wpList _ _ _ (Oper.mk _ (Op.store _ _ _) _ _ _ _ :: _) _ _;refine wpList_storeK (Tm.cells z) rfl _ _ _ rfl rfl rfl hB.out hall9.out (by rw [hlen9.out]) (by rw [hlen9.out];omega) rfl (by decide) hiN hone ?_;intro w2 hB2 hO2));have HB2:=Hh (by rw [← hnx.out] at hB2;exact hB2);have HF2:=Hh (((Only.fut (S:=fun k => k=w.heap.size) hF.out).trans hO2).toFut fun k hk => by omega);clear hB2 hO2 hB hF;go_wp2;go_roundw
   case rel => exact ⟨k+1,by omega,by go_num,HB2,HF2⟩
   case measure => simp [intOf] <;> omega
  ·obtain rfl:k=xs.length:=by omega
   have hMk:=Hh (markTm_any wr (HP.out.fut hF.out));have e1:(0:Int)≤xs.length∧(xs.length:Int)<xs.length+1:=by omega
   have hall9:=Hh hall;have hlen9:=Hh hlen
   have hone:∀ v ∈ mkTm,v.oneCell'=true:=fun v hv => by
    unfold mkTm at hv;simp only [List.mem_cons,List.not_mem_nil,or_false] at hv;rcases hv with (rfl|rfl|rfl|rfl) <;> rfl
   clear hall hlen;go_wp2_with fail;refine hMk.out.mono ?_;rintro e w1 ⟨rfl,f1⟩;have hB1:=Hh (hB.out.fut f1);have hF1:=Hh (hF.out.trans f1);clear f1 hB hF hMk;go_wp2_with (first|(show wpList _ _ _ (Oper.mk _ (Op.store _ _ _) _ _ _ _ :: _) _ _;refine wpList_storeK mkTm rfl _ _ _ rfl rfl rfl hB1.out hall9.out (by rw [hlen9.out]) (by rw [hlen9.out];omega) rfl (by decide) hiN hone ?_;intro w2 hB2 hO2));have HF2:=Hh (((Only.fut (S:=fun k => k=w.heap.size) hF1.out).trans hO2).toFut fun k hk => by omega);have HB2:=Hh hB2;clear hB2 hO2;go_wp2;go_ret;refine ⟨_,rfl,⟨w.heap.size,_,Nat.le_refl _,rfl,?_,HB2.out,fun i x cs hx hc => ?_,fun cs hc => ?_⟩,HF2.out⟩
   ·rw [List.length_append,hlen9.out];rfl
   ·have hi:i<xs.length:=(List.getElem?_eq_some_iff.1 hx).1;rw [List.getElem?_append_left (by rw [hlen9.out];exact hi),List.take_length,List.getElem?_map,hx] at hc;obtain rfl:=Option.some.inj hc;exact ⟨rfl,rfl⟩
   ·rw [List.getElem?_append_right (by rw [hlen9.out];exact Nat.le_refl _),hlen9.out,Nat.sub_self] at hc;obtain rfl:=Option.some.inj hc;exact ⟨rfl,rfl⟩
set_option maxHeartbeats 1000000 in
theorem markAr_any (w:World) (hP:Pows w):Calls Tryz.prog 109 #[.int .i64 777777] w fun e w' => e = .returned (.agg mkAr.toArray)∧Fut w w':=by
 have HW:=Hh (fun w hP => word_any' w hP);have hb0:=Hh (blk_zero w zAr 190 (by decide));have f0:=Fut.alloc w (.cells zAr.toArray 190);unfold mkAr;generalize wordS=t at HW ⊢;go_enter Tryz.func109,Tryz.ntmps109;go_wp2_with fail;refine (HW.out _ (hP.fut f0)).mono ?_;rintro e w1 ⟨rfl,h1⟩;have hb1:=Hh (hb0.out.fut h1);have F1:=Hh (f0.trans h1);clear h1 f0;have hi3:=infoArN;go_wp2_with (first|(show wpList _ _ _ (Oper.mk _ (Op.store _ _ _) _ _ _ _ :: _) _ _;refine wpList_storeK ([.int .i8 0,.string t,.int .i8 0,.int .i64 0,.string ⟨#[]⟩]:List Value) rfl _ _ _ rfl rfl rfl hb1.out (fun c hc => (by cases hc)) rfl (by decide) rfl (by decide) hi3 (by intro v hv;simp only [List.mem_cons,List.not_mem_nil,or_false] at hv;rcases hv with (rfl|rfl|rfl|rfl|rfl) <;> rfl) ?_;intro w2 hB2 hO2));have hb2:=blk_one hB2 rfl;have OW:Fut w w2:=((Only.fut (S:=fun k => k=w.heap.size) F1.out).trans hO2).toFut fun k hk => by omega
 refine bodyPost_ret (v:=.agg ([.int .i8 0,.string t,.int .i8 0,.int .i64 0,.string ⟨#[]⟩]:List Value).toArray) (results_cell_row rfl _ _ w.heap.size _ ([.int .i8 0,.string t,.int .i8 0,.int .i64 0,.string ⟨#[]⟩]:List Value).toArray _ _ rfl hb2 Tryz.underlying190 rfl hi3) rfl ?_;exact ⟨rfl,OW⟩
set_option maxHeartbeats 1000000 in
theorem isAr_any (w:World) (hP:Pows w):Calls Tryz.prog 214 #[.agg mkAr.toArray,.int .i64 777777] w fun e w' => e = .returned (.bool true)∧Fut w w':=by
 have HP:=Hh hP;have HW:=Hh (fun w hP => word_any' w hP);unfold mkAr;generalize wordS=t at HW ⊢;have hbx:=heap_alloc_new w (.cells ([.int .i8 0,.string t,.int .i8 0,.int .i64 0,.string ⟨#[]⟩]:List Value).toArray 190);have c0:=cell_at hbx 0 _ rfl;have c1:=cell_at hbx 1 _ rfl;have c2:=cell_at hbx 2 _ rfl;have c3:=cell_at hbx 3 _ rfl;have c4:=cell_at hbx 4 _ rfl;clear hbx;go_enter Tryz.func214,Tryz.ntmps214;go_wp2;refine wp_graph 7 [.d,.d,.d,.d,.d,.d,.d] (by kernel_rfl) (by kernel_rfl) (by kernel_rfl) ?_;simp only [takS,Exs]
 iterate 7 apply Exists.intro
 apply Run.valG (wanted_none rfl _)
 ·intro w1 h1 hk;have q0:=h1.cell c0;have q1:=h1.cell c1;have q2:=h1.cell c2;have q3:=h1.cell c3;have q4:=h1.cell c4;have hcw:=fun b o => Below.cell (p:=⟨b,o,none⟩) h1;go_simp;rfl
 simp only [actS];apply Run.valG (wanted_none rfl _)
 ·intro w1 h1 hk;go_simp;rfl
 simp only [actS];apply Run.call (wanted_none rfl _) (fun _ _ => by go_simp;exact ⟨rfl,rfl⟩)
 ·intro w1 h1 hk;have q0:=h1.cell c0;have q1:=h1.cell c1;have q2:=h1.cell c2;have q3:=h1.cell c3;have q4:=h1.cell c4;exact HW.out _ (HP.out.fut (((Fut.alloc _ _).trans (Fut.drew _)).trans h1))
 simp only [actS]
 iterate 2
  apply Run.valG (wanted_none rfl _)
  ·intro w1 h1 hk;have q0:=h1.cell c0;have q1:=h1.cell c1;have q2:=h1.cell c2;have q3:=h1.cell c3;have q4:=h1.cell c4;have hcw:=fun b o => Below.cell (p:=⟨b,o,none⟩) h1;go_simp;rfl
  simp only [actS]
 iterate 2
  apply Run.valG (wanted_none rfl _)
  ·intro w1 h1 hk;go_simp;rfl
  simp only [actS]
 apply Run.done;intro w2 h2 hk;clear hk;go_wp2;go_ret;exact ⟨by first|rfl|simp,(Fut.alloc _ _).trans ((Fut.drew _).trans h2)⟩
abbrev TwAr:Nat→World→Value→List Ar→Prop:=TwinE 5 190 zAr (fun _ _ cs x => cs=Ar.cells x) (fun _ cs => cs=mkAr)
theorem TwAr.keep {B:Nat} {w w':World} {v:Value} {xs:List Ar} (h:TwAr B w v xs) (hf:Fut w w'):TwAr B w' v xs:=TwinE.fut (fun _ _ _ _ _ _ h => h) (fun _ _ _ _ h => h) h hf
set_option maxHeartbeats 2000000 in
theorem twinAr_any {M:Nat} (A:Option Addr) (c:Nat) (xs:List Ar) (w:World) (hP:Pows w) (h:SlRep 5 M RAr w (.slice A xs.length c) xs) (hn:xs.length≤100000000) :
    Calls Tryz.prog 87 #[.slice A xs.length c] w fun e w' => ∃ v,e = .returned v∧TwAr w.heap.size w' v xs∧Fut w w':=by
 obtain ⟨i0,hi0,hz0,hz1,hz2⟩:=info_parts infoAr5
 have hmk:∀ W:World,(Instr.makeSlice 79 (.int .i64 ((xs.length:Int)+1)) (.int .i64 ((xs.length:Int)+1))).run Tryz.prog W =
     .ok (.slice (some ⟨W.heap.size,0,none⟩) (xs.length+1) (xs.length+1)) (W.alloc (.cells (madeCells zAr.toArray ((xs.length+1) * 5)) 190)):=fun W => by
  have:=run_make_rowN (P:=Tryz.prog) 79 190 i0 _ Tryz.underlying79 hi0 hz0 .i64 .i64 (xs.length+1) (xs.length+1) (Nat.le_refl _) (by rw [hz2];omega) (by omega) W;rw [hz1] at this;exact this
 have HB0:=Hh (blk_madeK w zAr (xs.length+1) 190 (by decide));have F0:=Hh (Fut.alloc w (.cells (madeCells zAr.toArray ((xs.length+1) * 5)) 190));have H:=Hh h;have HP:=Hh hP;have hxl:xs.length≤9223372036854775807:=by omega
 have hiN:=infoArN;clear h hP hi0 hz0 hz1 hz2;go_enter Tryz.func87,Tryz.ntmps87;go_wp2;go_loopw [4] (fun i wr => ∃ k:Nat,k≤xs.length∧i = .int .i64 k∧Hid (BlkF wr w.heap.size 190 ((xs.length+1) * 5) (cellsAt ((xs.take k).map Ar.cells) zAr 5))∧Hid (Fut w wr)) (fun i _ => xs.length - (intOf i).toNat)
 case atStart => exact ⟨0,Nat.zero_le _,rfl,HB0,F0⟩
 case round =>
  obtain ⟨k,hk,rfl,hB,hF⟩:=hrel;have hlen:((xs.take k).map Ar.cells).length=k:=by rw [List.length_map,List.length_take,Nat.min_eq_left hk]
  have hall:∀ c ∈ (xs.take k).map Ar.cells,c.length=5:=fun c hc => by
   obtain ⟨x,_,rfl⟩:=List.mem_map.1 hc;rfl
  by_cases hlt:k<xs.length
  ·have hltI:(k:Int)<xs.length:=by omega
   have e0:(0:Int)≤k∧(k:Int)<xs.length:=by omega
   have e1:(0:Int)≤k∧(k:Int)<xs.length+1:=by omega
   obtain ⟨b',off,cs,rfl,hr,_,hcs⟩:=sl_row (H.out.fut RAr.stays hF.out) hlt;obtain rfl:=hr.cs;have hnx:=Hh (take_map hlt Ar.cells);have hone:=(xs[k]).one;generalize xs[k]=z at *;have hcs9:=Hh hcs;have hall9:=Hh hall;have hlen9:=Hh hlen;clear hcs hr hall hlen;go_wp2_with (first|(show wpList _ _ _ (Oper.mk _ (Op.load _ _) _ _ _ _ :: _) _ _;refine wpList_load_mid rfl _ _ rfl b' (off+k * 5) rfl (Ar.cells z) _ hcs9.out Tryz.underlying190 rfl hiN ?_)|(show wpList _ _ _ (Oper.mk _ (Op.store _ _ _) _ _ _ _ :: _) _ _;refine wpList_storeK (Ar.cells z) rfl _ _ _ rfl rfl rfl hB.out hall9.out (by rw [hlen9.out]) (by rw [hlen9.out];omega) rfl (by decide) hiN hone ?_;intro w2 hB2 hO2));have HB2:=Hh (by rw [← hnx.out] at hB2;exact hB2);have HF2:=Hh (((Only.fut (S:=fun k => k=w.heap.size) hF.out).trans hO2).toFut fun k hk => by omega);clear hB2 hO2 hB hF;go_wp2;go_roundw
   case rel => exact ⟨k+1,by omega,by go_num,HB2,HF2⟩
   case measure => simp [intOf] <;> omega
  ·obtain rfl:k=xs.length:=by omega
   have hMk:=Hh (markAr_any wr (HP.out.fut hF.out));have e1:(0:Int)≤xs.length∧(xs.length:Int)<xs.length+1:=by omega
   have hall9:=Hh hall;have hlen9:=Hh hlen
   have hone:∀ v ∈ mkAr,v.oneCell'=true:=fun v hv => by
    unfold mkAr at hv;simp only [List.mem_cons,List.not_mem_nil,or_false] at hv;rcases hv with (rfl|rfl|rfl|rfl|rfl) <;> rfl
   clear hall hlen;go_wp2_with fail;refine hMk.out.mono ?_;rintro e w1 ⟨rfl,f1⟩;have hB1:=Hh (hB.out.fut f1);have hF1:=Hh (hF.out.trans f1);clear f1 hB hF hMk;go_wp2_with (first|(show wpList _ _ _ (Oper.mk _ (Op.store _ _ _) _ _ _ _ :: _) _ _;refine wpList_storeK mkAr rfl _ _ _ rfl rfl rfl hB1.out hall9.out (by rw [hlen9.out]) (by rw [hlen9.out];omega) rfl (by decide) hiN hone ?_;intro w2 hB2 hO2));have HF2:=Hh (((Only.fut (S:=fun k => k=w.heap.size) hF1.out).trans hO2).toFut fun k hk => by omega);have HB2:=Hh hB2;clear hB2 hO2;go_wp2;go_ret;refine ⟨_,rfl,⟨w.heap.size,_,Nat.le_refl _,rfl,?_,HB2.out,fun i x cs hx hc => ?_,fun cs hc => ?_⟩,HF2.out⟩
   ·rw [List.length_append,hlen9.out];rfl
   ·have hi:i<xs.length:=(List.getElem?_eq_some_iff.1 hx).1;rw [List.getElem?_append_left (by rw [hlen9.out];exact hi),List.take_length,List.getElem?_map,hx] at hc;obtain rfl:=Option.some.inj hc;exact ⟨rfl,rfl⟩
   ·rw [List.getElem?_append_right (by rw [hlen9.out];exact Nat.le_refl _),hlen9.out,Nat.sub_self] at hc;obtain rfl:=Option.some.inj hc;exact ⟨rfl,rfl⟩
theorem sl_each {α:Type} {sz M:Nat} {R:World→List Value→α→Prop} {w:World} {v:Value} {xs:List α} (h:SlRep sz M R w v xs):∀ x ∈ xs,∃ cs,R w cs x:=fun x hx => by
 obtain ⟨A,cap,_,_,_,h3⟩:=h;obtain ⟨i,hi⟩:=List.getElem?_of_mem hx;obtain ⟨_,_,cs,_,_,_,hr⟩:=h3 i x hi;exact ⟨cs,hr⟩
theorem TwinE.mark {α:Type} {sz:Nat} {e:TypeId} {z mk:List Value} {RE:Nat→World→List Value→α→Prop} {B:Nat} {w:World} {v:Value} {xs:List α} (h:TwinE sz e z RE (fun _ cs => cs=mk) B w v xs) (hm:mk.length=sz) (hsz:0<sz) :
    ∃ g,B≤g∧v = .slice (some ⟨g,0,none⟩) xs.length (xs.length+1)∧∀ j u,mk[j]?=some u→w.cell? ⟨g,xs.length * sz+j,none⟩=some u:=by
 obtain ⟨g,css,h1,h2,h3,h4,h5,h6⟩:=h;refine ⟨g,h1,h2,fun j u hj => ?_⟩;have hc:css[xs.length]?=some (css[xs.length]'(by omega)):=List.getElem?_eq_getElem (by omega);have hjl:j<sz:=by rw [← hm];exact (List.getElem?_eq_some_iff.1 hj).1
 have he:=(h6 _ hc).2;rw [h4.cell (by rw [Nat.add_mul];omega),cellsAt_get (cs:=mk) (by rw [hc,he]) hj hjl]
theorem TwTm.rep {M B:Nat} {w w0:World} {v a:Value} {xs:List Tm} (h:TwTm B w v xs) (hr:SlRep 4 M RTm w0 a xs):SlRep 4 (xs.length+1) RTm w v xs :=
 TwinE.rep h (fun g cs x hx he => by
  obtain ⟨cs',h9⟩:=sl_each hr x hx;exact ⟨he,h9.2⟩) (Nat.le_refl _)
set_option maxHeartbeats 2000000 in
theorem sameTm_any {M M':Nat} (A B:Option Addr) (c d:Nat) (xs:List Tm) (w:World) (ha:SlRep 4 M RTm w (.slice A xs.length c) xs) (hb:SlRep 4 M' RTm w (.slice B xs.length d) xs) (hn:xs.length≤100000000) :
    Calls Tryz.prog 333 #[.slice A xs.length c,.slice B xs.length d] w fun e w' => e = .returned (.bool true)∧Fut w w':=by
 have HA:=Hh ha;have HB:=Hh hb;have hxl:xs.length≤9223372036854775807:=by omega
 clear ha hb;go_enter Tryz.func333,Tryz.ntmps333;go_wp2;go_loopw [5] (fun i wr => ∃ k:Nat,k≤xs.length∧i = .int .i64 k∧Hid (Fut w wr)) (fun i _ => xs.length - (intOf i).toNat)
 case atStart => exact ⟨0,Nat.zero_le _,rfl,Hh (Fut.refl _)⟩
 case round =>
  obtain ⟨k,hk,rfl,hF⟩:=hrel
  by_cases hlt:k<xs.length
  ·have hltI:(k:Int)<xs.length:=by omega
   have e0:(0:Int)≤k∧(k:Int)<xs.length:=by omega
   obtain ⟨b1,o1,cs1,rfl,hr1,_,hc1⟩:=sl_row HA.out hlt;obtain ⟨b2,o2,cs2,rfl,hr2,_,hc2⟩:=sl_row HB.out hlt;obtain rfl:=hr1.cs;obtain rfl:=hr2.cs;generalize xs[k]=z at *;have FW:=hF.out;have s0:=FW.cell (show w.cell? ⟨b1,o1+k * 4,none⟩=some _ from hc1 0 _ rfl);have s1:=FW.cell (show w.cell? ⟨b1,o1+k * 4+1,none⟩=some _ from hc1 1 _ rfl);have s2:=FW.cell (show w.cell? ⟨b1,o1+k * 4+2,none⟩=some _ from hc1 2 _ rfl);have s3:=FW.cell (show w.cell? ⟨b1,o1+k * 4+3,none⟩=some _ from hc1 3 _ rfl);have t0:=FW.cell (show w.cell? ⟨b2,o2+k * 4,none⟩=some _ from hc2 0 _ rfl);have t1:=FW.cell (show w.cell? ⟨b2,o2+k * 4+1,none⟩=some _ from hc2 1 _ rfl);have t2:=FW.cell (show w.cell? ⟨b2,o2+k * 4+2,none⟩=some _ from hc2 2 _ rfl);have t3:=FW.cell (show w.cell? ⟨b2,o2+k * 4+3,none⟩=some _ from hc2 3 _ rfl);clear FW hc1 hc2 hr1 hr2;go_wp2;refine wp_graph 9 [.d,.d,.d,.d,.d,.d,.d,.d,.d] (by kernel_rfl) (by kernel_rfl) (by kernel_rfl) ?_;simp only [takS,Exs]
   iterate 9 apply Exists.intro
   iterate 3
    apply Run.valG (wanted_none rfl _)
    ·intro w1 h1 hk;go_simp;rfl
    simp only [actS]
   apply Run.valG (wanted_none rfl _)
   ·intro w1 h1 hk;have r0:=h1.cell s0;have r1:=h1.cell s1;have r2:=h1.cell s2;have r3:=h1.cell s3;have r4:=h1.cell t0;have r5:=h1.cell t1;have r6:=h1.cell t2;have r7:=h1.cell t3;have hcw:=fun b o => Below.cell (p:=⟨b,o,none⟩) h1;go_simp;rfl
   simp only [actS]
   iterate 3
    apply Run.valG (wanted_none rfl _)
    ·intro w1 h1 hk;go_simp;rfl
    simp only [actS]
   apply Run.valG (wanted_none rfl _)
   ·intro w1 h1 hk;have r0:=h1.cell s0;have r1:=h1.cell s1;have r2:=h1.cell s2;have r3:=h1.cell s3;have r4:=h1.cell t0;have r5:=h1.cell t1;have r6:=h1.cell t2;have r7:=h1.cell t3;have hcw:=fun b o => Below.cell (p:=⟨b,o,none⟩) h1;go_simp;rfl
   simp only [actS];apply Run.valG (wanted_none rfl _)
   ·intro w1 h1 hk;go_simp;rfl
   simp only [actS];apply Run.done;intro w2 h2 hk;clear hk;have F9:=Hh (hF.out.trans ((Fut.drew _).trans h2));clear h2;go_wp2;go_roundw
   case rel => exact ⟨k+1,by omega,by go_num,F9⟩
   case measure => simp [intOf] <;> omega
  ·obtain rfl:k=xs.length:=by omega
   go_wp2;go_ret;exact ⟨rfl,hF.out⟩
set_option maxHeartbeats 2000000 in
theorem leftTm_any {M B:Nat} (t a:Value) (xs:List Tm) (w:World) (hP:Pows w) (ht:TwTm B w t xs) (ha:SlRep 4 M RTm w a xs) (hn:xs.length≤100000000) :
    Calls Tryz.prog 306 #[t,a] w fun e w' => e = .returned (.bool true)∧Fut w w':=by
 obtain ⟨g,_,rfl,hmk⟩:=TwinE.mark ht rfl (by decide);obtain ⟨A,c,rfl,hc1,hc2⟩:=ha.form;have HS:=Hh (sameTm_any _ A _ c xs w (ht.rep ha) ha hn);have HI:=Hh (fun W hW => isTm_any W hW);have hmk9:=Hh hmk;have hP9:=Hh hP;have hxl:xs.length≤9223372036854775807:=by omega
 have hiN:=infoTmN;have e1:(0:Int)≤xs.length∧(xs.length:Int)<xs.length+1:=by omega
 clear ht ha hmk hP;go_enter Tryz.func306,Tryz.ntmps306;go_wp2_with fail;refine HS.out.mono ?_;rintro e w1 ⟨rfl,f1⟩;have hcs9:=Hh (fun j u (hj:mkTm[j]?=some u) => f1.cell (hmk9.out j u hj));have F1:=Hh f1;clear f1 HS;go_wp2_with (first|(show wpList _ _ _ (Oper.mk _ (Op.load _ _) _ _ _ _ :: _) _ _;refine wpList_loadG (by go_simp) _ _ rfl g (xs.length * 4) rfl mkTm _ hcs9.out Tryz.underlying115 rfl hiN ?_));refine (HI.out _ (hP9.out.fut F1.out)).mono ?_;rintro e w2 ⟨rfl,f2⟩;have F2:=F1.out.trans f2;clear f2;go_wp2;go_ret;exact ⟨rfl,F2⟩
theorem TwAr.rep {M B:Nat} {w w0:World} {v a:Value} {xs:List Ar} (h:TwAr B w v xs) (hr:SlRep 5 M RAr w0 a xs):SlRep 5 (xs.length+1) RAr w v xs :=
 TwinE.rep h (fun g cs x hx he => by
  obtain ⟨cs',h9⟩:=sl_each hr x hx;exact ⟨he,h9.2⟩) (Nat.le_refl _)
set_option maxHeartbeats 2000000 in
theorem sameAr_any {M M':Nat} (A B:Option Addr) (c d:Nat) (xs:List Ar) (w:World) (ha:SlRep 5 M RAr w (.slice A xs.length c) xs) (hb:SlRep 5 M' RAr w (.slice B xs.length d) xs) (hn:xs.length≤100000000) :
    Calls Tryz.prog 213 #[.slice A xs.length c,.slice B xs.length d] w fun e w' => e = .returned (.bool true)∧Fut w w':=by
 have HA:=Hh ha;have HB:=Hh hb;have hxl:xs.length≤9223372036854775807:=by omega
 clear ha hb;go_enter Tryz.func213,Tryz.ntmps213;go_wp2;go_loopw [5] (fun i wr => ∃ k:Nat,k≤xs.length∧i = .int .i64 k∧Hid (Fut w wr)) (fun i _ => xs.length - (intOf i).toNat)
 case atStart => exact ⟨0,Nat.zero_le _,rfl,Hh (Fut.refl _)⟩
 case round =>
  obtain ⟨k,hk,rfl,hF⟩:=hrel
  by_cases hlt:k<xs.length
  ·have hltI:(k:Int)<xs.length:=by omega
   have e0:(0:Int)≤k∧(k:Int)<xs.length:=by omega
   obtain ⟨b1,o1,cs1,rfl,hr1,_,hc1⟩:=sl_row HA.out hlt;obtain ⟨b2,o2,cs2,rfl,hr2,_,hc2⟩:=sl_row HB.out hlt;obtain rfl:=hr1.cs;obtain rfl:=hr2.cs;generalize xs[k]=z at *;have FW:=hF.out;have s0:=FW.cell (show w.cell? ⟨b1,o1+k * 5,none⟩=some _ from hc1 0 _ rfl);have s1:=FW.cell (show w.cell? ⟨b1,o1+k * 5+1,none⟩=some _ from hc1 1 _ rfl);have s2:=FW.cell (show w.cell? ⟨b1,o1+k * 5+2,none⟩=some _ from hc1 2 _ rfl);have s3:=FW.cell (show w.cell? ⟨b1,o1+k * 5+3,none⟩=some _ from hc1 3 _ rfl);have s4:=FW.cell (show w.cell? ⟨b1,o1+k * 5+4,none⟩=some _ from hc1 4 _ rfl);have t0:=FW.cell (show w.cell? ⟨b2,o2+k * 5,none⟩=some _ from hc2 0 _ rfl);have t1:=FW.cell (show w.cell? ⟨b2,o2+k * 5+1,none⟩=some _ from hc2 1 _ rfl);have t2:=FW.cell (show w.cell? ⟨b2,o2+k * 5+2,none⟩=some _ from hc2 2 _ rfl);have t3:=FW.cell (show w.cell? ⟨b2,o2+k * 5+3,none⟩=some _ from hc2 3 _ rfl);have t4:=FW.cell (show w.cell? ⟨b2,o2+k * 5+4,none⟩=some _ from hc2 4 _ rfl);clear FW hc1 hc2 hr1 hr2;go_wp2;refine wp_graph 9 [.d,.d,.d,.d,.d,.d,.d,.d,.d] (by kernel_rfl) (by kernel_rfl) (by kernel_rfl) ?_;simp only [takS,Exs]
   iterate 9 apply Exists.intro
   iterate 3
    apply Run.valG (wanted_none rfl _)
    ·intro w1 h1 hk;go_simp;rfl
    simp only [actS]
   apply Run.valG (wanted_none rfl _)
   ·intro w1 h1 hk;have r0:=h1.cell s0;have r1:=h1.cell s1;have r2:=h1.cell s2;have r3:=h1.cell s3;have r4:=h1.cell t0;have r5:=h1.cell t1;have r6:=h1.cell t2;have r7:=h1.cell t3;have r8:=h1.cell s4;have r9:=h1.cell t4;have hcw:=fun b o => Below.cell (p:=⟨b,o,none⟩) h1;go_simp;rfl
   simp only [actS]
   iterate 3
    apply Run.valG (wanted_none rfl _)
    ·intro w1 h1 hk;go_simp;rfl
    simp only [actS]
   apply Run.valG (wanted_none rfl _)
   ·intro w1 h1 hk;have r0:=h1.cell s0;have r1:=h1.cell s1;have r2:=h1.cell s2;have r3:=h1.cell s3;have r4:=h1.cell t0;have r5:=h1.cell t1;have r6:=h1.cell t2;have r7:=h1.cell t3;have r8:=h1.cell s4;have r9:=h1.cell t4;have hcw:=fun b o => Below.cell (p:=⟨b,o,none⟩) h1;go_simp;rfl
   simp only [actS];apply Run.valG (wanted_none rfl _)
   ·intro w1 h1 hk;go_simp;rfl
   simp only [actS];apply Run.done;intro w2 h2 hk;clear hk;have F9:=Hh (hF.out.trans ((Fut.drew _).trans h2));clear h2;go_wp2;go_roundw
   case rel => exact ⟨k+1,by omega,by go_num,F9⟩
   case measure => simp [intOf] <;> omega
  ·obtain rfl:k=xs.length:=by omega
   go_wp2;go_ret;exact ⟨rfl,hF.out⟩
set_option maxHeartbeats 2000000 in
theorem leftAr_any {M B:Nat} (t a:Value) (xs:List Ar) (w:World) (hP:Pows w) (ht:TwAr B w t xs) (ha:SlRep 5 M RAr w a xs) (hn:xs.length≤100000000) :
    Calls Tryz.prog 101 #[t,a] w fun e w' => e = .returned (.bool true)∧Fut w w':=by
 obtain ⟨g,_,rfl,hmk⟩:=TwinE.mark ht rfl (by decide);obtain ⟨A,c,rfl,hc1,hc2⟩:=ha.form;have HS:=Hh (sameAr_any _ A _ c xs w (ht.rep ha) ha hn);have HI:=Hh (fun W hW => isAr_any W hW);have hmk9:=Hh hmk;have hP9:=Hh hP;have hxl:xs.length≤9223372036854775807:=by omega
 have hiN:=infoArN;have e1:(0:Int)≤xs.length∧(xs.length:Int)<xs.length+1:=by omega
 clear ht ha hmk hP;go_enter Tryz.func101,Tryz.ntmps101;go_wp2_with fail;refine HS.out.mono ?_;rintro e w1 ⟨rfl,f1⟩;have hcs9:=Hh (fun j u (hj:mkAr[j]?=some u) => f1.cell (hmk9.out j u hj));have F1:=Hh f1;clear f1 HS;go_wp2_with (first|(show wpList _ _ _ (Oper.mk _ (Op.load _ _) _ _ _ _ :: _) _ _;refine wpList_loadG (by go_simp) _ _ rfl g (xs.length * 5) rfl mkAr _ hcs9.out Tryz.underlying190 rfl hiN ?_));refine (HI.out _ (hP9.out.fut F1.out)).mono ?_;rintro e w2 ⟨rfl,f2⟩;have F2:=F1.out.trans f2;clear f2;go_wp2;go_ret;exact ⟨rfl,F2⟩
def SameOrNew (w:World) (v v':Value):Prop:=v'.ownBlock=v.ownBlock∨∀ k,v'.ownBlock=some k→w.heap.size≤k
theorem append_block {P:Program} {w w':World} {v':Value} (base:Nat) (t ty e:TypeId) (i:TypeInfo) (z:Value) (size bytes:Nat) (ht:P.underlying t=some (.slice e)) (hi:P.info? e=some i) (hz:i.zero=some z)
    (hsize:i.size=size) (hby:i.bytes=bytes) (hzs:z.cells.size=size) (hsz:0<size)
    (v:Value) (n:Nat) (xs:List Value) (hown:w.ownsRow base e size v n xs)
    (a:Addr) (m c:Nat) (news:List Value) (hl:news.length=m * size) (hnews:∀ j u,news[j]?=some u→w.cell? (a.add j)=some u) (h1:∀ u ∈ news,u.oneCell'=true)
    (h63:n+m≤maxLen) (hbytes:(n+m) * bytes≤140737488355328) (hbase:base≤w.heap.size)
    (hr:(Builtin.append_ #[t,t] ty #[v,.slice (some a) m c]).run P w = .ok v' w'):SameOrNew w v v':=by
 subst hsize;subst hby;rcases hown.2 with ⟨rfl,rfl⟩|⟨g,cap,cur,rfl,hbg,hg,hnc,hcm,hcs,htake⟩
 ·have hx:xs=[]:=List.eq_nil_of_length_eq_zero (by simpa using hown.1);subst hx;obtain ⟨v2,w2,r1,r2,_,_⟩:=run_append_own (P:=P) (w:=w) w.heap.size t ty e i z i.size i.bytes ht hi hz rfl rfl hzs hsz (.slice none 0 0) 0 [] (World.ownsRow_nil w _ e _) a m c news hl hnews h1 h63 hbytes (Nat.le_refl _);rw [hr] at r1;injection r1 with e1 e2
  subst e1;exact .inr fun k hk => (r2.lt k hk).1
 ·by_cases hroom:n+m≤cap
  ·have hfit:n * i.size+news.length≤cur.size:=by rw [hl,hcs,← Nat.add_mul];exact Nat.mul_le_mul_right _ hroom
   have r1:=run_append_room (P:=P) w t ty e i ht hi g n cap cur hg a m c news hl hnews h1 hroom hfit;rw [hr] at r1;injection r1 with e1 e2
   subst e1;exact .inl rfl
  ·have holds:∀ j u,xs[j]?=some u→w.cell? ((⟨g,0,none⟩:Addr).add j)=some u:=hown.cells (g:=g) rfl;have hsmall:n+m≤9223372036854775807:=by simp only [maxLen] at h63;omega
   have r1:=run_append_grow (P:=P) w t ty e i z ht hi hz ⟨g,0,none⟩ n cap xs hown.1 holds a m c news hl hnews (by omega) (by omega) (growslice_fits (by omega) hbytes);rw [hr] at r1;injection r1 with e1 e2
   subst e1
   exact .inr fun k hk => by
    have h9:w.heap.size=k:=by simpa [Value.ownBlock] using hk
    omega
section
variable {α:Type} {sz B M:Nat} {e:TypeId} {R:World→List Value→α→Prop} {w w':World} {v u:Value} {xs ys:List α}
theorem run_append_listB {P:Program} (t ty:TypeId) (i:TypeInfo) (z:Value) (bytes:Nat) (ht:P.underlying t=some (.slice e)) (hi:P.info? e=some i) (hz:i.zero=some z) (hsize:i.size=sz) (hby:i.bytes=bytes) (hzs:z.cells.size=sz) (hsz:0<sz)
    (hR1:∀ w cs x,R w cs x→∀ u ∈ cs,u.oneCell'=true) (hRk:∀ w' cs (x:α),R w cs x→w.grownBy w' v.ownBlock→R w' cs x)
    (h:OwnL sz B e R w v xs) (hu:SlRep sz M R w u ys) (h63:xs.length+ys.length≤maxLen) (hbytes:(xs.length+ys.length) * bytes≤140737488355328) (hbase:B≤w.heap.size) :
    ∃ v' w',(Builtin.append_ #[t,t] ty #[v,u]).run P w = .ok v' w'∧OwnL sz B e R w' v' (xs++ys)∧w.grownBy w' v.ownBlock∧SameOrNew w v v':=by
 have h0:=h;obtain ⟨css,h1,h2,h3⟩:=h;obtain ⟨A,cap,rfl,hl,hm,hx⟩:=hu;have hgrow:∀ w',w.grownBy w' v.ownBlock→∀ (i:Nat) (cs:List Value) (x:α),css[i]?=some cs→xs[i]?=some x→cs.length=sz∧R w' cs x:=fun w' hg i cs x hi hx => ⟨(h2 i cs x hi hx).1,hRk _ _ _ (h2 i cs x hi hx).2 hg⟩
 cases A with
 | none =>
  have hy:ys=[]:=by
   cases ys with
   | nil => rfl
   | cons y r => obtain ⟨_,_,_,hA,_⟩:=hx 0 y rfl;cases hA
  subst hy;obtain ⟨A',cap',hv,hl',_⟩:=h0.rep.form;subst hv;exact ⟨_,w,run_append_none t ty i ht hi A' _ cap' cap hl' w,by rw [List.append_nil];exact h0,World.grownBy.refl w _,.inl rfl⟩
 | some a =>
  obtain ⟨news,hnl,hnews⟩:=exists_list (p:=fun k (cs:List Value) => ∃ y,ys[k]?=some y∧cs.length=sz∧R w cs y∧∀ j c,cs[j]?=some c→w.cell? (a.add (k * sz+j))=some c) ys.length fun k hk => by
   obtain ⟨b,off,cs,hA,b1,b2,b3⟩:=hx k _ (List.getElem?_eq_getElem hk);injection hA with hA
   subst hA;refine ⟨cs,_,List.getElem?_eq_getElem hk,b1,b3,fun j c hj => ?_⟩;rw [← b2 j c hj];rw [Addr.add_lit]
  have hs:∀ (i:Nat) (cs:List Value),news[i]?=some cs→cs.length=sz:=fun i cs hi => by obtain ⟨y,_,b1,_⟩:=hnews i cs hi;exact b1
  have hcells:∀ j u,news.flatten[j]?=some u→w.cell? (a.add j)=some u:=fun j u hj => by
   have hjl:j<news.length * sz:=by
    have:=(List.getElem?_eq_some_iff.1 hj).1
    rwa [flatten_len hs] at this
   have hk:j / sz<news.length:=Nat.div_lt_of_lt_mul (by rw [Nat.mul_comm];exact hjl);obtain ⟨y,_,b1,_,b2⟩:=hnews (j / sz) _ (List.getElem?_eq_getElem hk);have hr:j % sz<(news[j / sz]).length:=by rw [b1];exact Nat.mod_lt _ hsz
   have e1:=flatten_at hs (j / sz) (j % sz) _ _ (List.getElem?_eq_getElem hk) (List.getElem?_eq_getElem hr);have e2:=b2 (j % sz) _ (List.getElem?_eq_getElem hr);rw [show j / sz * sz+j % sz=j by rw [Nat.mul_comm];exact Nat.div_add_mod j sz] at e1 e2;rw [hj] at e1;rw [e2,← e1]
  have hone:∀ u ∈ news.flatten,u.oneCell'=true:=fun u hu => by
   obtain ⟨cs,hc,hu⟩:=List.mem_flatten.1 hu;obtain ⟨k,hk⟩:=List.getElem?_of_mem hc;obtain ⟨y,_,_,b3,_⟩:=hnews k cs hk;exact hR1 _ _ _ b3 u hu
  obtain ⟨v',w',r1,r2,r3,_⟩:=run_append_own (P:=P) (w:=w) B t ty e i z sz bytes ht hi hz hsize hby hzs hsz v xs.length css.flatten h3 a ys.length cap news.flatten (by rw [flatten_len hs,hnl]) hcells hone h63 hbytes hbase;have r4:=append_block B t ty e i z sz bytes ht hi hz hsize hby hzs hsz v xs.length css.flatten h3 a ys.length cap news.flatten (by rw [flatten_len hs,hnl]) hcells hone h63 hbytes hbase r1;refine ⟨v',w',r1,⟨css++news,by simp [h1,hnl],fun k cs x hk hx' => ?_,by rw [List.flatten_append,List.length_append];exact r2⟩,r3,r4⟩;rcases Nat.lt_or_ge k css.length with h'|h'
  ·rw [List.getElem?_append_left h'] at hk;rw [List.getElem?_append_left (by omega)] at hx';exact hgrow w' r3 k cs x hk hx'
  ·rw [List.getElem?_append_right h'] at hk;rw [List.getElem?_append_right (by omega)] at hx';obtain ⟨y,e1,b1,b3,_⟩:=hnews _ _ hk;rw [h1,hx'] at e1;obtain rfl:=Option.some.inj e1;exact ⟨b1,hRk _ _ _ b3 r3⟩
theorem wpList_append_LB {P:Program} {ops:Array Oper} {rest:List Oper} {o:Oper} {a:Act} {Q:Exit→Act→World→Prop} (hgd:Region.wanted o (yielded ops a.tmps)=true) (s x:Operand) (t:TypeId)
    (ho:o.op = .call { callee:=.builtin .append,args:=#[s,x],argTypes:=#[t,t] }) (ht:P.underlying t=some (.slice e)) (z:Value) (bytes:Nat)
    (hinfo:(P.info? e).map (fun i => (i.zero,i.size,i.bytes))=some (some z,sz,bytes)) (hzs:z.cells.size=sz) (hsz:0<sz)
    (hR1:∀ w cs x,R w cs x→∀ u ∈ cs,u.oneCell'=true) (hRk:Keeps e R)
    (hs:a.eval s=v) (hx:a.eval x=u) (hown:OwnL sz B e R w v xs) (hu:SlRep sz M R w u ys) (h63:xs.length+ys.length≤maxLen) (hbytes:(xs.length+ys.length) * bytes≤140737488355328) (hbase:B≤w.heap.size)
    (h:∀ v' w',OwnL sz B e R w' v' (xs++ys)→w.grownBy w' v.ownBlock→SameOrNew w v v'→wpList P ops Q rest (a.put o.dst v') w'):wpList P ops Q (o :: rest) a w:=by
 obtain ⟨i,hi,hz,hs',hb⟩:=info_parts hinfo;obtain ⟨v',w',hr,h2,h3,h4⟩:=run_append_listB t o.type i z bytes ht hi hz hs' hb hzs hsz hR1 (fun w' cs x hr hg => hRk w w' _ cs x hr hg hown.typed) hown hu h63 hbytes hbase;refine wpList_step fun K hK => ?_;rw [if_pos hgd];unfold Oper.wp
 have hrun:(execOp a.eval o).run P w = .ok (.value v') w':=by
  unfold execOp;simp only [ho,resolve,invoke,builtin,Sem.run_bind,Sem.run_pure,Result.andThen_ok,List.map_toArray,List.map_cons,List.map_nil,hs,hx,hr]
 rw [hrun];exact hK _ _ (h v' w' h2 h3 h4)
end
def Ex.kids:Ex→List Ex
 | .mk _ _ ks => ks
mutual
def Ex.size:Ex→Nat
 | .mk _ _ ks => 1+Ex.sizes ks
def Ex.sizes:List Ex→Nat
 | [] => 0
 | k :: r => k.size+Ex.sizes r
end
mutual
def Ex.depth:Ex→Nat
 | .mk _ _ ks => 1+Ex.depths ks
def Ex.depths:List Ex→Nat
 | [] => 0
 | k :: r => max k.depth (Ex.depths r)
end
theorem sizes_append:∀ a b:List Ex,Ex.sizes (a++b)=Ex.sizes a+Ex.sizes b
 | [],b => by simp [Ex.sizes]
 | x :: a,b => by rw [List.cons_append,Ex.sizes,Ex.sizes,sizes_append a b];omega
theorem depths_append:∀ a b:List Ex,Ex.depths (a++b)=max (Ex.depths a) (Ex.depths b)
 | [],b => by simp [Ex.depths]
 | x :: a,b => by rw [List.cons_append,Ex.depths,Ex.depths,depths_append a b];omega
theorem sizes_level:∀ L:List Ex,Ex.sizes L=L.length+Ex.sizes (L.flatMap Ex.kids)
 | [] => by simp [Ex.sizes]
 | x :: r => by
  obtain ⟨op,t,ks⟩:=x;rw [List.flatMap_cons,sizes_append,Ex.sizes,sizes_level r,Ex.size,List.length_cons];show 1+Ex.sizes ks+_=_+(Ex.sizes ks+_);omega
theorem depths_level:∀ L:List Ex,L≠[]→Ex.depths L=1+Ex.depths (L.flatMap Ex.kids)
 | [],h => absurd rfl h
 | x :: r,_ => by
  obtain ⟨op,t,ks⟩:=x;rw [List.flatMap_cons,depths_append,Ex.depths,Ex.depth];show max (1+Ex.depths ks) (Ex.depths r)=1+max (Ex.depths ks) _
  by_cases hr:r=[]
  ·subst hr;simp [Ex.depths]
  ·rw [depths_level r hr];omega
theorem ex_form {n:Nat} {w:World} {cs:List Value} {x:Ex} (h:RE n w cs x):∃ m op t ks A c,n=m+1∧x = .mk op t ks∧cs=[.int .i8 op,.string t.v,.int .i8 t.x.k,.int .i64 t.x.n,.string t.x.s,.slice A ks.length c]∧ks.length≤c∧c≤1759218604441∧SlRep 6 1759218604441 (RE m) w (.slice A ks.length c) ks:=by
 cases n with
 | zero => exact h.elim
 | succ m =>
  obtain ⟨op,t,ks⟩:=x;obtain ⟨kv,h1,h2,h3,h4⟩:=h;obtain ⟨A,c,rfl,h5,h6⟩:=h4.form;exact ⟨m,op,t,ks,A,c,rfl,rfl,h1,h5,h6,h4⟩
def RX0 (n:Nat) (w0:World) (_:World) (cs:List Value) (x:Ex):Prop:=RE n w0 cs x
theorem RX0.stays {n:Nat} {w0:World}:Stays (RX0 n w0):=fun _ _ _ _ _ h => h
theorem RX0.keeps {n:Nat} {w0:World} {e:TypeId}:Keeps e (RX0 n w0):=fun _ _ _ _ _ h _ _ => h
theorem RX0.one {n:Nat} {w0:World}:∀ (w:World) cs x,RX0 n w0 w cs x→∀ u ∈ cs,u.oneCell'=true:=fun w cs x h u hu => by
 obtain ⟨m,op,t,ks,A,c,_,_,rfl,_⟩:=ex_form h;simp only [List.mem_cons,List.not_mem_nil,or_false] at hu;rcases hu with rfl|rfl|rfl|rfl|rfl|rfl <;> rfl
theorem infoEx:(Tryz.prog.info? 118).map (fun i => (i.zero,i.size,i.bytes))=some (some (.agg #[.int .i8 0,.string ⟨#[]⟩,.int .i8 0,.int .i64 0,.string ⟨#[]⟩,.slice none 0 0]),6,80):=by kernel_rfl
theorem exOne {n:Nat} {w0 w:World} {cs:List Value} {x:Ex} (h:RE n w0 cs x) (e:TypeId):SlRep 6 1 (RX0 n w0) (w.alloc (.cells cs.toArray e)) (.slice (some ⟨w.heap.size,0,none⟩) 1 1) [x] :=
 ⟨_,1,rfl,Nat.le_refl _,Nat.le_refl _,fun i y hy => by
  have hi:i=0:=by
   have:=(List.getElem?_eq_some_iff.1 hy).1;simp at this;omega
  subst hi;simp at hy;subst hy;have hl:cs.length=6:=by obtain ⟨m,op,t,ks,A,c,_,_,rfl,_⟩:=ex_form h;rfl
  refine ⟨w.heap.size,0,cs,rfl,hl,fun j c hj => ?_,h⟩;rw [show 0+(0 * 6+j)=j by omega];have h0:=heap_alloc_new w (.cells cs.toArray e);simp only [World.cell?,h0];simpa using hj⟩
theorem ex_at {M n:Nat} {w w0:World} {A:Option Addr} {l cap:Nat} {xs:List Ex} (h:SlRep 6 M (RX0 n w0) w (.slice A l cap) xs) {k:Nat} (hk:k<xs.length) :
    ∃ b off m op t ks A' c,A=some ⟨b,off,none⟩∧n=m+1∧xs[k] = .mk op t ks∧w.cell? ⟨b,off+k * 6,none⟩=some (.int .i8 op)∧w.cell? ⟨b,off+k * 6+1,none⟩=some (.string t.v)∧w.cell? ⟨b,off+k * 6+2,none⟩=some (.int .i8 t.x.k) ∧
     w.cell? ⟨b,off+k * 6+3,none⟩=some (.int .i64 t.x.n)∧w.cell? ⟨b,off+k * 6+4,none⟩=some (.string t.x.s)∧w.cell? ⟨b,off+k * 6+5,none⟩=some (.slice A' ks.length c)∧ks.length≤c∧c≤1759218604441∧SlRep 6 1759218604441 (RE m) w0 (.slice A' ks.length c) ks ∧
     RE n w0 [.int .i8 op,.string t.v,.int .i8 t.x.k,.int .i64 t.x.n,.string t.x.s,.slice A' ks.length c] xs[k]:=by
 obtain ⟨A1,cap1,hv,_,_,h3⟩:=h;obtain ⟨b,off,cs,hA,hl,hc,hr⟩:=h3 k _ (List.getElem?_eq_getElem hk);injection hv with hv _ _
 obtain ⟨m,op,t,ks,A',c,h4,h5,rfl,h6,h7,h8⟩:=ex_form hr;exact ⟨b,off,m,op,t,ks,A',c,hv.trans hA,h4,h5,hc 0 _ rfl,hc 1 _ rfl,hc 2 _ rfl,hc 3 _ rfl,hc 4 _ rfl,hc 5 _ rfl,h6,h7,h8,hr⟩
theorem flat_take {L:List Ex} {i:Nat} (hi:i<L.length):(L.take (i+1)).flatMap Ex.kids=(L.take i).flatMap Ex.kids++L[i].kids:=by
 rw [List.take_succ_eq_append_getElem hi,List.flatMap_append];simp
theorem own_ex1 {n:Nat} {w0 w:World} {cs:List Value} {x:Ex} {B:Nat} (h:RE n w0 cs x) (e:TypeId) (hB:B≤w.heap.size):OwnL 6 B e (RX0 n w0) (w.alloc (.cells cs.toArray e)) (.slice (some ⟨w.heap.size,0,none⟩) 1 1) [x]:=by
 have hl:cs.length=6:=by obtain ⟨m,op,t,ks,A,c,_,_,rfl,_⟩:=ex_form h;rfl
 refine ⟨[cs],rfl,fun i ds z hi hz => ?_,?_⟩
 ·have hil:=(List.getElem?_eq_some_iff.1 hi).1;simp at hil;subst hil;simp at hi hz;subst hi;subst hz;exact ⟨hl,h⟩
 ·refine ⟨by simp [hl],.inr ⟨w.heap.size,1,_,rfl,hB,heap_alloc_new w _,Nat.le_refl _,by unfold maxLen;omega,by simp [hl],?_⟩⟩;simp [hl];exact List.take_of_length_le (by omega)
set_option maxHeartbeats 2000000 in
set_option maxRecDepth 100000 in
theorem exprParts_any {n:Nat} (x:Ex) (op:Int) (t:Tm) (kv:Value) (left:Nat) (w:World) (h:RE n w [.int .i8 op,.string t.v,.int .i8 t.x.k,.int .i64 t.x.n,.string t.x.s,kv] x) (hleft:left≤1048576) :
    Calls Tryz.prog 203 #[.agg #[.int .i8 op,.string t.v,.int .i8 t.x.k,.int .i64 t.x.n,.string t.x.s,kv],.int .i64 left] w fun e w' => ∃ r:Nat,e = .returned (.int .i64 r)∧(r=left+1∨(r=x.size∧r≤left∧x.depth≤65537))∧Fut w w':=by
 obtain ⟨m,op',t',ks,A,c,hn,hx,hcs,hkc,hcm,hks⟩:=ex_form h;injection hcs with q0 hcs;injection hcs with q1 hcs;injection hcs with q2 hcs;injection hcs with q3 hcs;injection hcs with q4 hcs;injection hcs with q5 _
 subst q5;have H:=Hh h;clear q0 q1 q2 q3 q4 h hx hks hn;go_enter Tryz.func203,Tryz.ntmps203;go_wp2_with fail;have hO0:=own_ex1 (w:=w.alloc (.cells #[.int .i8 op,.string t.v,.int .i8 t.x.k,.int .i64 t.x.n,.string t.x.s,.slice A ks.length c] 118)) (B:=w.heap.size) H.out 118 (by simp);have hs0:(w.alloc (.cells #[.int .i8 op,.string t.v,.int .i8 t.x.k,.int .i64 t.x.n,.string t.x.s,.slice A ks.length c] 118)).heap.size=w.heap.size+1:=by simp
 rw [hs0] at hO0;have F0:=(Fut.alloc w (.cells #[.int .i8 op,.string t.v,.int .i8 t.x.k,.int .i64 t.x.n,.string t.x.s,.slice A ks.length c] 118)).trans (Fut.alloc _ (.cells #[.int .i8 op,.string t.v,.int .i8 t.x.k,.int .i64 t.x.n,.string t.x.s,.slice A ks.length c] 118));have HO0:=Hh hO0;replace F0:=Hh F0;clear hO0 hs0;go_loopw [5,6,7] (fun nn lv dp wr => ∃ (q d:Nat) (L:List Ex),q≤left∧q+L.length≤left+1∧nn = .int .i64 q∧dp = .int .i64 d∧d≤65537∧Hid (q+Ex.sizes L=x.size)∧Hid (x.depth=d+Ex.depths L)∧Hid (OwnL 6 w.heap.size 118 (RX0 n w) wr lv L)∧Hid (Fut w wr)) (fun nn _ _ _ => left - (intOf nn).toNat)
 case atStart => exact ⟨0,0,[x],Nat.zero_le _,by simp,rfl,rfl,by omega,Hh (by simp [Ex.sizes]),Hh (by simp [Ex.depths]),HO0,F0⟩
 case round =>
  obtain ⟨q,d,L,hq,hqL,rfl,rfl,hd,hsz,hdp,hL,hF⟩:=hrel;obtain ⟨wo,hwo⟩:∃ y,y=wr:=⟨_,rfl⟩
  subst hwo;have hL0:=hL.out;obtain ⟨AL,cL,hlv,hcl,hcm9⟩:=hL0.rep.form;rw [hlv] at hL0;rw [hlv];have HL:=Hh hL0;clear hL0 hL
  by_cases hne:L.length=0
  ·have hLn:L=[]:=List.length_eq_zero_iff.1 hne;subst hLn;have r1:q=x.size:=by have:=hsz.out;simpa [Ex.sizes] using this
   have r2:x.depth≤65537:=by have:=hdp.out;simp [Ex.depths] at this;omega
   go_wp2;go_ret;exact ⟨q,rfl,.inr ⟨r1,hq,r2⟩,hF.out⟩
  ·have hpos:0<L.length:=by omega
   have hposI:(0:Int)<L.length:=by omega
   have hlw:IntKind.i64.wrap ((left:Int)+1)=((left+1:Nat):Int):=by rw [IntKind.wrap_i64];omega
   by_cases hov:q+L.length > left
   ·have hovI:((q:Int)+L.length) > left:=by omega
    go_wp2;go_ret;exact ⟨left+1,by first|rfl|simp,.inl rfl,hF.out⟩
   by_cases hdo:d > 65536
   ·have hovI:¬ ((q:Int)+L.length) > left:=by omega
    have hdI:(d:Int) > 65536:=by omega
    go_wp2;go_ret;exact ⟨left+1,by first|rfl|simp,.inl rfl,hF.out⟩
   have hovI:¬ ((q:Int)+L.length) > left:=by omega
   have hdI:¬ (d:Int) > 65536:=by omega
   have hsL:=sizes_level L;have hdL:=depths_level L (fun e => hne (by rw [e];rfl));have hsz':=Hh (show q+L.length+Ex.sizes (L.flatMap Ex.kids)=x.size by have:=hsz.out;omega);have hdp':=Hh (show x.depth=d+1+Ex.depths (L.flatMap Ex.kids) by have:=hdp.out;omega);clear hsL hdL hsz hdp;go_wp2_with fail;obtain ⟨q',hq'⟩:∃ q',q'=q+L.length:=⟨_,rfl⟩
   have hqc:((q:Int)+L.length)=(q':Int):=by omega
   try rw [hqc]
   have hq'l:q'≤left:=by omega
   have hqlt:=Hh (show q<q' by omega);rw [← hq'] at hsz';replace hq':=Hh hq';clear hqc hovI hov;go_loopw [8,9] (fun nx i wi => ∃ k:Nat,k≤L.length∧i = .int .i64 k∧q'+((L.take k).flatMap Ex.kids).length≤left∧Hid (OwnL 6 wo.heap.size 118 (RX0 n w) wi nx ((L.take k).flatMap Ex.kids))∧Hid (Fut wo wi)) (fun _ i _ => L.length - (intOf i).toNat)
   case atStart => exact ⟨0,Nat.zero_le _,rfl,by simpa using hq'l,Hh OwnL.nil,Hh (Fut.refl _)⟩
   case round =>
    obtain ⟨k,hk,rfl,hfl,hN,hFi⟩:=hrel;obtain ⟨wi,hwi⟩:∃ y,y=wr:=⟨_,rfl⟩
    subst hwi;obtain ⟨AN,cN,hnv,hcl2,hcm2⟩:=hN.out.rep.form;have HN:=Hh hN.out;rw [hnv] at HN;rw [hnv];clear hN
    by_cases hlt:k<L.length
    ·obtain ⟨b,off,m',op',t',ks',A',c',rfl,hn',hxk,y0,y1,y2,y3,y4,y5,hc1,hc2,hks',_⟩:=ex_at HL.out.rep hlt;have y5i:=hFi.out.cell y5;have hmn:=Hh (show m'≤n by omega);clear hn';have hft:=flat_take hlt;have hki:L[k].kids=ks':=by rw [hxk];rfl
     rw [hki] at hft;have hltI:(k:Int)<L.length:=by omega
     have e0:(0:Int)≤k∧(k:Int)<L.length:=by omega
     generalize (L.take k).flatMap Ex.kids=G at *;have hw2:IntKind.i64.wrap ((q':Int)+G.length)=((q'+G.length:Nat):Int):=by rw [IntKind.wrap_i64];omega
     have hw3:IntKind.i64.wrap ((q':Int)+G.length+ks'.length)=((q'+G.length+ks'.length:Nat):Int):=by rw [IntKind.wrap_i64];omega
     clear y0 y1 y2 y3 y4 hxk hki;replace hft:=Hh hft
     by_cases hov2:q'+G.length+ks'.length > left
     ·have hovI2:((q':Int)+G.length+ks'.length) > left:=by omega
      go_wp2;go_ret;exact ⟨left+1,by first|rfl|simp,.inl rfl,hF.out.trans hFi.out⟩
     ·have hovI2:¬ ((q':Int)+G.length+ks'.length) > left:=by omega
      go_wp2_with fail;go_loopw [8,10] (fun nx j wj => ∃ s:Nat,s≤ks'.length∧j = .int .i64 s∧Hid (OwnL 6 wo.heap.size 118 (RX0 n w) wj nx (G++ks'.take s))∧Hid (Fut wo wj)) (fun _ j _ => ks'.length - (intOf j).toNat)
      case atStart => exact ⟨0,Nat.zero_le _,rfl,Hh (by rw [List.take_zero,List.append_nil];exact HN.out),hFi⟩
      case round =>
       obtain ⟨s,hs,rfl,hM,hFj⟩:=hrel;have y5j:=hFj.out.cell y5
       by_cases hsl:s<ks'.length
       ·have hkj:SlRep 6 1759218604441 (RX0 m' w) wr (.slice A' ks'.length c') ks':=(hks'.imp fun cs x h => (h:RX0 m' w w cs x)).fut RX0.stays (hF.out.trans hFj.out);obtain ⟨b2,off2,m2,op2,t2,ks2,A2,c2,rfl,hm2,hz2,z0,z1,z2,z3,z4,z5,_,_,_,hre⟩:=ex_at hkj hsl;have hts:ks'.take (s+1)=ks'.take s++[ks'[s]]:=List.take_succ_eq_append_getElem hsl;have hre':=RE.mono hmn.out hre;clear hre hkj hm2 hz2;generalize ks'[s]=z at *;have hsI:(s:Int)<ks'.length:=by omega
        have e2:(0:Int)≤s∧(s:Int)<ks'.length:=by omega
        have hln:(G++ks'.take s).length=G.length+s:=by rw [List.length_append,List.length_take];omega
        have hlh:=Hh hln;replace hts:=Hh (show G++ks'.take (s+1)=(G++ks'.take s)++[z] by rw [hts,List.append_assoc]);have hbj:=hFj.out.size;generalize G++ks'.take s=G2 at *;clear hln;go_wp2_with (first|(at_builtin;refine wpList_append_LB (R:=RX0 n w) (B:=wo.heap.size) (M:=1) (xs:=G2) (ys:=[z]) (e:=118) (by go_simp) _ _ 116 rfl Tryz.underlying116 (.agg #[.int .i8 0,.string ⟨#[]⟩,.int .i8 0,.int .i64 0,.string ⟨#[]⟩,.slice none 0 0]) 80 infoEx rfl (by decide) RX0.one RX0.keeps rfl rfl (hM.out.fut RX0.stays (Fut.alloc _ _)) (exOne hre' _) ?l3 ?l4 ?b3 ?k3))
        case l3 => have:=hlh.out;simp [maxLen];omega
        case l4 => have:=hlh.out;first|omega|(simp;omega)
        case b3 => first|omega|(simp;omega)
        case k3 =>
        intro v' w' o' g' sn';have F':=Hh (Fut.grown (hFj.out.trans (Fut.alloc _ _)) g' (fun y hy => (hM.out.block y hy).1));have o5:=Hh o';clear o' g' sn';go_wp2;go_roundw
        case rel => exact ⟨s+1,by omega,by go_num,by rw [hts.out];exact o5,F'⟩
        case measure => simp [intOf] <;> omega
       ·obtain rfl:s=ks'.length:=by omega
        rw [List.take_length] at hM;go_wp2;go_roundw
        case rel => exact ⟨k+1,by omega,by go_num,by rw [hft.out,List.length_append];omega,by rw [hft.out];exact hM,hFj⟩
        case measure => simp [intOf] <;> omega
    ·obtain rfl:k=L.length:=by omega
     rw [List.take_length] at HN hfl;have hb9:=hF.out.size;have HN':=Hh (HN.out.base hb9);have F9:=Hh (hF.out.trans hFi.out);rw [List.take_length];generalize L.flatMap Ex.kids=G at *;clear HN;go_wp2;go_roundw
     case rel => exact ⟨q',d+1,G,hq'l,by omega,by go_num,by go_num,by omega,hsz',hdp',HN',F9⟩
     case measure => have:=hqlt.out;simp [intOf] <;> omega
end Go.Proofs.YtobabnpllokkaaaGreatDoor
namespace Go.Proofs.YtobabnpllokkaaaGreatDoor
open Go.RowKit Go.WideMaps
end Go.Proofs.YtobabnpllokkaaaGreatDoor
