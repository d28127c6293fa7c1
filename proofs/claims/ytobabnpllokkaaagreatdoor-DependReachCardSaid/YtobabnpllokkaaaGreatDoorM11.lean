/- Parts. -/
import Derived.Test.YtobabnpllokkaaaGreatDoorM10
import Derived.Test.YtobabnpllokkaaaGreatDoorM04
import Derived.Test.YtobabnpllokkaaaGreatDoorM00
set_option linter.unusedSimpArgs false
set_option linter.unusedVariables false
namespace Go.Proofs.YtobabnpllokkaaaGreatDoor
open Go.RowKit Go.WideMaps Go.Maps
theorem Ex.size_pos (x:Ex):1 ≤ x.size:=by
 obtain ⟨op,t,ks⟩:=x
 unfold Ex.size
 omega
theorem b_le_bs:∀ l:List Lt,l.length ≤ (l.flatMap Lt.vs).length
 | [] => by simp
 | x :: r => by
  rw [List.length_cons,List.flatMap_cons,List.length_append]
  have h1:=b_le_bs r
  have h2:1 ≤ x.vs.length:=by
   unfold Lt.vs
   rw [List.length_append,List.length_append,Ex.vs_len]
   have:=x.l.size_pos
   omega
  omega
theorem LtC.vs_ok {w:World} {x:Lt} {av kl kd:Value} (h:LtC w x av kl kd):∀ v ∈ x.vs,v.size ≤ 140737488351232:=fun v hv => by
 unfold Lt.vs at hv
 rcases List.mem_append.1 hv with hv | hv
 ·exact tm_ok h.args v hv
 ·rcases List.mem_append.1 hv with hv | hv
  ·obtain ⟨n,hn⟩:=h.left
   exact RE.vs_ok n hn v hv
  ·obtain ⟨n,hn⟩:=h.right
   exact RE.vs_ok n hn v hv
theorem heads_ok {M:Nat} {w:World} {v:Value} {xs:List Ar} (h:SlRep 5 M RAr w v xs):∀ x ∈ xs.map (·.t.v),x.size ≤ 140737488351232:=fun x hx => by
 obtain ⟨t,ht,rfl⟩:=List.mem_map.1 hx
 obtain ⟨cs,_,_,hok⟩:=sl_mem h t ht
 exact hok.1
theorem body_ok {M:Nat} {w:World} {v:Value} {xs:List Lt} (h:SlRep 16 M RLt w v xs):∀ x ∈ xs.flatMap Lt.vs,x.size ≤ 140737488351232:=fun x hx => by
 obtain ⟨t,ht,hv⟩:=List.mem_flatMap.1 hx
 obtain ⟨cs,hr⟩:=sl_mem h t ht
 obtain ⟨A,c,Al,l,cl,Ad,d,cd,_,_,_,hc⟩:=lt_cs hr
 exact hc.vs_ok x hv
theorem Ru.vars_ok {M M':Nat} {w:World} {hv bv:Value} {x:Ru} (h1:SlRep 5 M RAr w hv x.h) (h2:SlRep 16 M' RLt w bv x.b):∀ v ∈ x.vars,v.size ≤ 140737488351232:=fun v hv => by
 rcases List.mem_append.1 (ddVs_mem hv) with hv | hv
 ·exact heads_ok h1 v hv
 ·exact body_ok h2 v hv
set_option maxHeartbeats 2000000 in
set_option maxRecDepth 100000 in
theorem rule_any (x:Ru) (Ah Ab:Option Addr) (ch cb:Nat) (w:World) (hp:x.p.size ≤ 140737488351232) (h1:SlRep 5 2513169434916 RAr w (.slice Ah x.h.length ch) x.h) (h2:SlRep 16 651562446089 RLt w (.slice Ab x.b.length cb) x.b) (hl:x.hs.length + x.bs.length ≤ 400000000) :
    Calls Tryz.prog 247 #[.agg #[.string x.p,.slice Ah x.h.length ch,.slice Ab x.b.length cb]] w fun e w' => e = .returned (.int .i64 x.errno)∧Fut w w':=by
 have HC:=Lib.hid (fun W (hW:Fut w W) => checkR_any x Ah Ab ch cb W hp (h1.fut RAr.stays hW) (h2.fut RLt.stays hW) (by omega))
 have HV:=Lib.hid (fun W (hW:Fut w W) => ruleVars_any x Ah Ab ch cb W (h1.fut RAr.stays hW) (h2.fut RLt.stays hW) (by omega))
 have hbs:=b_le_bs x.b
 have HL:=Lib.hid (fun W (hW:Fut w W) => limits_any Ab cb x.b W (h2.fut RLt.stays hW) (by omega) (by unfold Ru.bs at hl;omega) (by unfold Ru.bs at hl;omega))
 have HO:=Lib.hid (x.vars_ok h1 h2)
 have hvl:x.vars.length ≤ 400000000:=by
  have:=ddVs_len (x.hs ++ x.bs)
  rw [List.length_append] at this
  unfold Ru.vars
  omega
 obtain ⟨er,her⟩:∃ e,x.errno = e:=⟨_,rfl⟩
 rw [her]
 unfold Ru.errno Ru.safe at her
 obtain ⟨vs,hvs⟩:∃ v,x.vars = v:=⟨_,rfl⟩
 obtain ⟨Lx,hLx⟩:∃ v,limitsB x.b = v:=⟨_,rfl⟩
 rw [hvs] at HV HO hvl her
 rw [hLx] at HL her
 obtain ⟨gd,hgd⟩:∃ g,x.good = g:=⟨_,rfl⟩
 rw [hgd] at HC her
 replace hvl:=Lib.hid hvl
 clear h1 h2 hl hbs hvs hLx hgd
 obtain ⟨p,xh,xb⟩:=x
 dsimp only at *
 generalize xh.length = n at *
 generalize xb.length = m at *
 have hbx:=heap_alloc_new w (.cells #[.string p,.slice Ah n ch,.slice Ab m cb] 82)
 have f0:=Fut.alloc w (.cells #[.string p,.slice Ah n ch,.slice Ab m cb] 82)
 cases gd
 ·obtain rfl:er = 40:=by rw [← her];rfl
  clear her
  go_enter Tryz.func247,Tryz.ntmps247
  go_wp2_with fail
  refine (HC.out _ f0).mono ?_
  rintro e w1 ⟨rfl,f1⟩
  go_wp2
  go_ret
  exact ⟨rfl,f0.trans f1⟩
 ·have her2:=Lib.hid (show (if allIn Lx vs = true then (0:Int) else 73) = er from her)
  clear her
  go_enter Tryz.func247,Tryz.ntmps247
  go_wp2_with fail
  refine (HC.out _ f0).mono ?_
  rintro e w1 ⟨rfl,f1⟩
  have F1:=Lib.hid (f0.trans f1)
  have c0:=cell_at (f1.block hbx) 0 (.string p) rfl
  have c1:=cell_at (f1.block hbx) 1 (.slice Ah n ch) rfl
  have c2:=cell_at (f1.block hbx) 2 (.slice Ab m cb) rfl
  clear f0 f1 hbx HC
  go_wp2_with fail
  refine wp_graph 7 [.d,.d,.r (fun v W => ∃ fb mb lv,v = .pointer (some ⟨fb,0,none⟩)∧FdSt w.heap.size W fb mb Lx lv),.d,.r (fun v W => Nms w.heap.size W v vs),.d,.d] (by kernel_rfl) (by kernel_rfl) (by kernel_rfl) ?_
  simp only [takS,Exs]
  iterate 5 apply Exists.intro
  apply Run.valG (wanted_none rfl _)
  ·intro w1 h1 hk
   go_simp;rfl
  simp only [actS]
  apply Run.valG (wanted_none rfl _)
  ·intro w1 h1 hk
   have q0:=h1.cell c0;have q1:=h1.cell c1;have q2:=h1.cell c2;have hg:=F1.out.trans ((Fut.drew _).trans h1)
   have hcw:=fun b o => Below.cell (p:=⟨b,o,none⟩) h1
   go_simp;rfl
  simp only [actS]
  apply Run.callR (wanted_none rfl _) (by intro v w w' hf hs;exact (by obtain ⟨fb,mb,lv,g1,g2⟩:=hs;exact ⟨fb,mb,lv,g1,g2.fut hf⟩)) (fun _ _ => by go_simp;exact ⟨rfl,rfl⟩)
  ·intro w1 h1 hk
   have q0:=h1.cell c0;have q1:=h1.cell c1;have q2:=h1.cell c2;have hg:=F1.out.trans ((Fut.drew _).trans h1)
   refine (HL.out _ hg).mono ?_;rintro e w' ⟨fb,mb,lv,rfl,g1,hf⟩;exact ⟨_,rfl,hf,fb,mb,lv,rfl,⟨g1.cell,g1.list.base hg.size,g1.map,g1.sizes,Nat.le_trans hg.size g1.low.1,Nat.le_trans hg.size g1.low.2⟩⟩
  intro v2
  simp only [actS]
  apply Run.valG (wanted_none rfl _)
  ·intro w1 h1 hk
   have q0:=h1.cell c0;have q1:=h1.cell c1;have q2:=h1.cell c2;have hg:=F1.out.trans ((Fut.drew _).trans h1)
   have hcw:=fun b o => Below.cell (p:=⟨b,o,none⟩) h1
   go_simp;rfl
  simp only [actS]
  apply Run.callR (wanted_none rfl _) (by intro v w w' hf hs;exact hs.fut RNm.stays hf) (fun _ _ => by go_simp;exact ⟨rfl,rfl⟩)
  ·intro w1 h1 hk
   have f2:=Facts.get hk 0 rfl (by kernel_rfl)
   have q0:=h1.cell c0;have q1:=h1.cell c1;have q2:=h1.cell c2;have hg:=F1.out.trans ((Fut.drew _).trans h1)
   refine (HV.out _ hg).mono ?_;rintro e w' ⟨v,rfl,g1,hf⟩;exact ⟨_,rfl,hf,g1.base hg.size⟩
  intro v4
  simp only [actS]
  apply Run.call (wanted_none rfl _) (fun _ _ => by go_simp;exact ⟨rfl,rfl⟩)
  ·intro w1 h1 hk
   have f2:=Facts.get hk 0 rfl (by kernel_rfl)
   have f4:=Facts.get hk 1 rfl (by kernel_rfl)
   have q0:=h1.cell c0;have q1:=h1.cell c1;have q2:=h1.cell c2;have hg:=F1.out.trans ((Fut.drew _).trans h1)
   obtain ⟨fb,mb,lv,rfl,g1⟩:=f2;obtain ⟨A,c,rfl,_,_⟩:=f4.rep.form;refine (allF_any A c vs _ g1 f4.rep (by unfold maxLen;omega) HO.out).mono ?_;rintro e w' ⟨rfl,rfl⟩;exact ⟨rfl,Fut.refl _⟩
  simp only [actS]
  apply Run.valG (wanted_none rfl _)
  ·intro w1 h1 hk
   go_simp;rfl
  simp only [actS]
  apply Run.done
  intro w2 h2 hk
  obtain ⟨f2,f4,_⟩:=hk
  have F2:=Lib.hid (F1.out.trans ((Fut.drew _).trans h2))
  clear h2 c0 c1 c2 f2 f4
  obtain ⟨a,ha⟩:∃ a,allIn Lx vs = a:=⟨_,rfl⟩
  rw [ha] at her2 ⊢
  clear ha
  cases a
  ·obtain rfl:er = 73:=by rw [← her2.out];rfl
   go_wp2
   go_ret
   exact ⟨rfl,F2.out⟩
  ·obtain rfl:er = 0:=by rw [← her2.out];rfl
   go_wp2
   go_ret
   exact ⟨rfl,F2.out⟩
def RL0 (w0:World) (_:World) (cs:List Value) (x:Lt):Prop:=RLt w0 cs x
theorem RL0.stays {w0:World}:Stays (RL0 w0):=fun _ _ _ _ _ h => h
theorem RL0.keeps {w0:World} {e:TypeId}:Keeps e (RL0 w0):=fun _ _ _ _ _ h _ _ => h
theorem RL0.one {w0:World}:∀ (w:World) cs x,RL0 w0 w cs x→∀ u ∈ cs,u.oneCell' = true:=fun w cs x h u hu => by
 obtain ⟨A,c,Al,l,cl,Ad,d,cd,rfl,_⟩:=lt_cs (show RLt w0 cs x from h)
 exact Lt.cs_one x A x.a.length c Al l cl Ad d cd u hu
theorem infoLtF:(Tryz.prog.info? 120).map (fun i => (i.zero,i.size,i.bytes)) = some (some (.agg #[.int .i8 0,.string ⟨#[]⟩,.slice none 0 0,.int .i8 0,.int .i8 0,.string ⟨#[]⟩,.int .i8 0,.int .i64 0,.string ⟨#[]⟩,.slice none 0 0,.int .i8 0,.string ⟨#[]⟩,.int .i8 0,.int .i64 0,.string ⟨#[]⟩,.slice none 0 0]),16,216):=by kernel_rfl
theorem infoLtS:(Tryz.prog.info? 120).map (·.size) = some 16:=by kernel_rfl
theorem set_fold:∀ (l:List Value) (k:Nat) (arr:Array Value),k + l.length ≤ arr.size→(l.zipIdx k).foldl (fun cs (x:Value × Nat) => cs.setIfInBounds (0 + x.2) x.1) arr = (arr.toList.take k ++ l ++ arr.toList.drop (k + l.length)).toArray
 | [],k,arr,h => by simp
 | v :: r,k,arr,h => by
  rw [List.length_cons] at h
  rw [List.zipIdx_cons,List.foldl_cons,set_fold r (k + 1) _ (by simp;omega)]
  congr 1
  have hk:k < arr.toList.length:=by simp;omega
  rw [show 0 + k = k by omega,Array.toList_setIfInBounds,List.take_set,List.drop_set]
  simp only [show ¬ k + 1 + r.length ≤ k by omega,if_false]
  rw [List.set_eq_take_append_cons_drop]
  simp only [List.length_take,show k < min (k + 1) arr.toList.length by omega,if_true]
  rw [List.take_take,show min k (k + 1) = k by omega,List.drop_take]
  simp [List.length_cons,show k + 1 + r.length = k + (r.length + 1) by omega]
theorem run_slice1 {P:Program} {t e:TypeId} {cs:List Value} {z:Value} {n m:Nat} (ht:P.underlying t = some (.slice e)) (hi:(P.info? e).map (fun i => (i.zero,i.size,i.bytes)) = some (some z,n,m)) (hn:cs.length = n) (hzs:z.cells.size = n) (hp:0 < n) (hsm:n ≤ 2 ^ 24) (w:World) :
    (Instr.buildSlice t 1 #[(0,.agg cs.toArray)]).run P w = .ok (.slice (some ⟨w.heap.size,0,none⟩) 1 1) (w.alloc (.cells cs.toArray e)):=by
 obtain ⟨i,hq,hz,hs,_⟩:=info_parts hi
 refine run_buildSlice w t e 1 _ _ i z ht hq hz (by rw [hs];omega) (by rw [hs];omega) ?_
 rw [hs]
 unfold Instr.fill Instr.fill
 simp only [Nat.zero_mul,Nat.one_mul]
 have e1:(Value.agg cs.toArray).cells = cs.toArray:=rfl
 rw [e1]
 rw [if_neg (by simp;omega)]
 congr 1
 rw [← Array.foldl_toList,Array.toList_zipIdx]
 have h9:=set_fold cs 0 ((Array.range n).map (z.cells[· % z.cells.size]!)) (by simp;omega)
 rw [h9]
 simp
 omega
theorem wpList_slice1 {P:Program} {ops:Array Oper} {rest:List Oper} {o:Oper} {a:Act} {w:World} {Q:Exit→Act→World→Prop} {t e:TypeId} {cs:List Value} {z:Value} {n m:Nat} (hg:o.guard = none) (x:Operand) (ho:o.op = .buildSlice t 1 #[(0,x)]) (hx:a.eval x = .agg cs.toArray)
    (ht:P.underlying t = some (.slice e)) (hi:(P.info? e).map (fun i => (i.zero,i.size,i.bytes)) = some (some z,n,m)) (hn:cs.length = n) (hzs:z.cells.size = n) (hp:0 < n) (hsm:n ≤ 2 ^ 24)
    (h:wpList P ops Q rest (a.put o.dst (.slice (some ⟨w.heap.size,0,none⟩) 1 1)) (w.alloc (.cells cs.toArray e))):wpList P ops Q (o :: rest) a w:=by
 refine wpList_of_run (wanted_none hg _) (v:=.slice (some ⟨w.heap.size,0,none⟩) 1 1) (w':=w.alloc (.cells cs.toArray e)) ?_ h
 unfold execOp
 have h1:(#[((0:Nat),x)].map fun (i,x) => (i,a.eval x)) = #[(0,.agg cs.toArray)]:=by simp [hx]
 simp only [ho,h1,Sem.run_bind,Sem.run_pure,Result.andThen_ok,run_slice1 ht hi hn hzs hp hsm]
end Go.Proofs.YtobabnpllokkaaaGreatDoor
namespace Go.Proofs.YtobabnpllokkaaaGreatDoor
open Go.RowKit
def Ar.agg (a:Ar):Bool:=!decide (a.g = 0)
def Ru.agg (r:Ru):Bool:=r.h.any Ar.agg
set_option maxHeartbeats 1600000 in
theorem agg1_any (a:Ar) (w:World):Calls Tryz.prog 252 #[.agg #[.int .i8 a.g,.string a.t.v,.int .i8 a.t.x.k,.int .i64 a.t.x.n,.string a.t.x.s]] w fun e w' => e = .returned (.bool a.agg)∧Fut w w':=by
 by_cases h:a.g = 0
 ·have h1:a.agg = false:=by unfold Ar.agg;rw [h];rfl
  rw [h1]
  go_enter Tryz.func252,Tryz.ntmps252
  go_wp2
  go_ret
  exact ⟨by first | rfl | simp [h],Fut.alloc _ _⟩
 ·have h1:a.agg = true:=by unfold Ar.agg;rw [decide_eq_false h];rfl
  rw [h1]
  go_enter Tryz.func252,Tryz.ntmps252
  go_wp2
  go_ret
  exact ⟨by first | rfl | simp [h],Fut.alloc _ _⟩
set_option maxHeartbeats 1600000 in
set_option maxRecDepth 100000 in
theorem idxG_any {M:Nat} (A:Option Addr) (c:Nat) (xs:List Ar) (w:World) (h:SlRep 5 M RAr w (.slice A xs.length c) xs) (hM:M ≤ 9223372036854775807) :
    Calls Tryz.prog 279 #[.slice A xs.length c,.func (.func 252) #[] #[]] w fun e w' => ∃ r:Int,e = .returned (.int .i64 r)∧decide (0 ≤ r) = xs.any Ar.agg∧Fut w w':=by
 have H:=Lib.hid h
 obtain ⟨_,_,hv,hl1,hl2⟩:=h.form
 have hxl:xs.length ≤ 9223372036854775807:=by omega
 clear h hv hl1 hl2
 go_enter Tryz.func279,Tryz.ntmps279
 go_wp2_with fail
 go_loopw [8] (fun i wr => ∃ k:Nat,k ≤ xs.length∧i = .int .i64 k∧Hid (∀ x ∈ xs.take k,x.agg = false)∧Hid (Fut w wr)) (fun i _ => xs.length - (intOf i).toNat)
 case atStart => exact ⟨0,Nat.zero_le _,rfl,Lib.hid (fun x hx => by simp at hx),Lib.hid (Fut.refl _)⟩
 case round =>
  obtain ⟨k,hk,rfl,hI,hF⟩:=hrel
  by_cases hlt:k < xs.length
  ·have hltI:(k:Int) < xs.length:=by omega
   have e0:(0:Int) ≤ k∧(k:Int) < xs.length:=by omega
   obtain ⟨b,off,rfl,_,_,y0,y1,y2,y3,y4⟩:=ar_at (H.out.fut RAr.stays hF.out) hlt
   have hnx:Hid (xs.take (k + 1) = xs.take k ++ [xs[k]]):=Lib.hid (List.take_succ_eq_append_getElem hlt)
   have hmem:xs[k] ∈ xs:=List.getElem_mem hlt
   generalize xs[k] = t at *
   have HD:=Lib.hid (fun W => agg1_any t W)
   obtain ⟨d,hd⟩:∃ d,t.agg = d:=⟨_,rfl⟩
   have hd':=Lib.hid hd
   rw [hd] at HD
   clear hd
   cases d
   ·go_wp2_with fail
    refine (HD.out _).mono ?_
    rintro e w3 ⟨rfl,f3⟩
    have F3:=Lib.hid (hF.out.trans f3)
    have hI2:Hid (∀ x ∈ xs.take (k + 1),x.agg = false):=Lib.hid fun x hx => by
     rw [hnx.out,List.mem_append] at hx
     rcases hx with hx | hx
     ·exact hI.out x hx
     ·rw [List.mem_singleton] at hx;subst hx;exact hd'.out
    clear f3
    go_wp2
    go_roundw
    case rel => exact ⟨k + 1,by omega,by go_num,hI2,F3⟩
    case measure => simp [intOf] <;> omega
   ·go_wp2_with fail
    refine (HD.out _).mono ?_
    rintro e w3 ⟨rfl,f3⟩
    go_wp2
    go_ret
    exact ⟨k,rfl,by
     have h9:xs.any Ar.agg = true:=List.any_eq_true.2 ⟨_,hmem,hd'.out⟩
     rw [h9];simp,hF.out.trans f3⟩
  ·obtain rfl:k = xs.length:=by omega
   rw [List.take_length] at hI
   go_wp2
   go_ret
   exact ⟨-1,rfl,by
    have h9:xs.any Ar.agg = false:=List.any_eq_false.2 fun x hx => by rw [hI.out x hx];decide
    rw [h9];decide,hF.out⟩
set_option maxHeartbeats 1600000 in
theorem contG_any {M:Nat} (A:Option Addr) (c:Nat) (xs:List Ar) (w:World) (h:SlRep 5 M RAr w (.slice A xs.length c) xs) (hM:M ≤ 9223372036854775807) :
    Calls Tryz.prog 251 #[.slice A xs.length c,.func (.func 252) #[] #[]] w fun e w' => e = .returned (.bool (xs.any Ar.agg))∧Fut w w':=by
 have HI:=Lib.hid (idxG_any A c xs w h hM)
 obtain ⟨b,hb⟩:∃ b,(xs.any Ar.agg) = b:=⟨_,rfl⟩
 rw [hb] at HI ⊢
 clear h hb
 go_enter Tryz.func251,Tryz.ntmps251
 go_wp2_with fail
 refine HI.out.mono ?_
 rintro e w1 ⟨r,rfl,hr,f1⟩
 by_cases h0:0 ≤ r
 ·obtain rfl:b = true:=by rw [← hr];simp [h0]
  have h0':r ≥ 0:=h0
  go_wp2
  go_ret
  exact ⟨by first | rfl | simp,f1⟩
 ·obtain rfl:b = false:=by rw [← hr];simp [h0]
  have h0':¬ r ≥ 0:=h0
  go_wp2
  go_ret
  exact ⟨by first | rfl | simp,f1⟩
set_option maxHeartbeats 1600000 in
theorem agg_any (x:Ru) (Ah Ab:Option Addr) (ch cb:Nat) (w:World) (h1:SlRep 5 2513169434916 RAr w (.slice Ah x.h.length ch) x.h) :
    Calls Tryz.prog 198 #[.agg #[.string x.p,.slice Ah x.h.length ch,.slice Ab x.b.length cb]] w fun e w' => e = .returned (.bool x.agg)∧Fut w w':=by
 have f0:=Fut.alloc w (.cells #[.string x.p,.slice Ah x.h.length ch,.slice Ab x.b.length cb] 82)
 have HC:=Lib.hid (contG_any Ah ch x.h _ (h1.fut RAr.stays f0) (by omega))
 have F0:=Lib.hid f0
 unfold Ru.agg
 clear h1 f0
 generalize x.h.any Ar.agg = b at *
 generalize x.h.length = n at *
 generalize x.b.length = m at *
 generalize x.p = p at *
 go_enter Tryz.func198,Tryz.ntmps198
 go_wp2_with fail
 refine HC.out.mono ?_
 rintro e w1 ⟨rfl,f1⟩
 have F1:=Lib.hid (F0.out.trans f1)
 clear f1
 go_wp2
 go_ret
 exact ⟨rfl,F1.out⟩
end Go.Proofs.YtobabnpllokkaaaGreatDoor
namespace Go.Proofs.YtobabnpllokkaaaGreatDoor
open Go.RowKit
def Lt.isA (x:Lt):Bool:=decide (x.k = 1) || decide (x.k = 2)
set_option maxHeartbeats 4000000 in
set_option maxRecDepth 100000 in
theorem atoms_any {M:Nat} (Inv:Nat→World→Prop) (A:Option Addr) (c:Nat) (xb:List Lt) (w:World) (F:FuncId) (bs:Array Value) (hxl:xb.length ≤ 9223372036854775807) (hcall:∀ args W,(callFunc F args).run Tryz.prog W = .ok (.enter F args) W)
    (hrep:∀ k W,Inv k W→SlRep 16 M RLt W (.slice A xb.length c) xb) (hfut:∀ k W W',Inv k W→Fut W W'→Inv k W')
    (hno:∀ k (hk:k < xb.length) W,Inv k W→xb[k].isA = false→Inv (k + 1) W)
    (hyes:∀ k (hk:k < xb.length) W A' c' Al l cl Ad d cd,Inv k W→xb[k].isA = true→LtC W xb[k] (.slice A' xb[k].a.length c') (.slice Al l cl) (.slice Ad d cd)→Calls Tryz.prog F (#[.agg (xb[k].cs (.slice A' xb[k].a.length c') (.slice Al l cl) (.slice Ad d cd)).toArray] ++ bs) W fun e W' => (∃ u,e = .returned u)∧Inv (k + 1) W')
    (h0:Inv 0 w):Calls Tryz.prog 94 #[.slice A xb.length c,.func (.func F) #[] bs] w fun e w' => (∃ u,e = .returned u)∧Inv xb.length w':=by
 have HR:=Lib.hid hrep
 have HF:=Lib.hid hfut
 have HN:=Lib.hid hno
 have HY:=Lib.hid hyes
 have H0:=Lib.hid h0
 clear hrep hfut hno hyes h0
 go_enter Tryz.func94,Tryz.ntmps94
 go_wp2_with fail
 go_loopw [8] (fun i wr => ∃ k:Nat,k ≤ xb.length∧i = .int .i64 k∧Hid (Inv k wr)) (fun i _ => xb.length - (intOf i).toNat)
 case atStart => exact ⟨0,Nat.zero_le _,rfl,H0⟩
 case round =>
  obtain ⟨k,hk,rfl,hI⟩:=hrel
  by_cases hlt:k < xb.length
  ·have hltI:(k:Int) < xb.length:=by omega
   have e0:(0:Int) ≤ k∧(k:Int) < xb.length:=by omega
   obtain ⟨b',off,A',c2,Al,l',cl,Ad,d',cd,rfl,hcs,_,_,g3⟩:=lt_at (HR.out k wr hI.out) hlt
   have hN:=Lib.hid (fun W => HN.out k hlt W)
   have hY:=Lib.hid (fun W hi ha hc => HY.out k hlt W A' c2 Al l' cl Ad d' cd hi ha hc)
   generalize xb[k] = z at *
   obtain ⟨wb,hwb⟩:∃ W,W = wr.alloc (.cells (z.cs (.slice A' z.a.length c2) (.slice Al l' cl) (.slice Ad d' cd)).toArray 120):=⟨_,rfl⟩
   have f0:Fut wr wb:=by rw [hwb];exact Fut.alloc _ _
   have hbx:wb.heap[wr.heap.size]? = some (.cells (z.cs (.slice A' z.a.length c2) (.slice Al l' cl) (.slice Ad d' cd)).toArray 120 (0,0)):=by rw [hwb];exact heap_alloc_new _ _
   replace hwb:=Lib.hid hwb
   have hone:=Lt.cs_one z A' z.a.length c2 Al l' cl Ad d' cd
   have k0:=cell_at hbx 0 (.int .i8 z.k) rfl
   have hrange:=Lib.hid (show ∀ j v,(z.cs (.slice A' z.a.length c2) (.slice Al l' cl) (.slice Ad d' cd))[j]? = some v→wb.cell? ⟨wr.heap.size,0 + j,none⟩ = some v from fun j v hj => by
    rw [Nat.zero_add]
    exact cell_at hbx j v (by simpa using hj))
   have hcs9:=Lib.hid hcs
   have hIb:=Lib.hid (HF.out k wr wb hI.out f0)
   have hgb:=Lib.hid (g3.fut f0)
   clear f0 hbx hI hcs g3
   by_cases ha:z.isA = true
   ·have HC:=Lib.hid (hY.out wb hIb.out ha hgb.out)
    have hk12:z.k = 1∨z.k = 2:=by
     unfold Lt.isA at ha
     simpa using ha
    clear ha hN hY
    rcases hk12 with e1 | e1
    ·go_wp2_with (first | (refine wpList_rangeBox (z.cs (.slice A' z.a.length c2) (.slice Al l' cl) (.slice Ad d' cd)) rfl rfl rfl rfl rfl rfl rfl hcs9.out Tryz.underlying120 infoLt rfl hone rfl rfl hwb.out.symm ?_) | (refine wpList_load_mid rfl _ _ rfl _ _ rfl (z.cs (.slice A' z.a.length c2) (.slice Al l' cl) (.slice Ad d' cd)) _ hrange.out Tryz.underlying120 rfl infoLtS ?_))
     refine HC.out.mono ?_
     rintro e w3 ⟨⟨u,rfl⟩,hI3⟩
     replace hI3:=Lib.hid hI3
     clear HC
     go_wp2
     go_roundw
     case rel => exact ⟨k + 1,by omega,by go_num,hI3⟩
     case measure => simp [intOf] <;> omega
    ·have e2:¬ z.k = 1:=by omega
     go_wp2_with (first | (refine wpList_rangeBox (z.cs (.slice A' z.a.length c2) (.slice Al l' cl) (.slice Ad d' cd)) rfl rfl rfl rfl rfl rfl rfl hcs9.out Tryz.underlying120 infoLt rfl hone rfl rfl hwb.out.symm ?_) | (refine wpList_load_mid rfl _ _ rfl _ _ rfl (z.cs (.slice A' z.a.length c2) (.slice Al l' cl) (.slice Ad d' cd)) _ hrange.out Tryz.underlying120 rfl infoLtS ?_))
     refine HC.out.mono ?_
     rintro e w3 ⟨⟨u,rfl⟩,hI3⟩
     replace hI3:=Lib.hid hI3
     clear HC
     go_wp2
     go_roundw
     case rel => exact ⟨k + 1,by omega,by go_num,hI3⟩
     case measure => simp [intOf] <;> omega
   ·have ha2:z.isA = false:=by simpa using ha
    have hI3:=Lib.hid (hN.out wb hIb.out ha2)
    have e1:¬ z.k = 1:=fun h => ha (by unfold Lt.isA;rw [h];rfl)
    have e2:¬ z.k = 2:=fun h => ha (by unfold Lt.isA;rw [h];rfl)
    have e3:(z.k == 1) = false:=by rw [beq_eq_false_iff_ne];exact e1
    have e4:(z.k == 2) = false:=by rw [beq_eq_false_iff_ne];exact e2
    clear ha ha2 hN hY
    go_wp2_with (first | (refine wpList_rangeBox (z.cs (.slice A' z.a.length c2) (.slice Al l' cl) (.slice Ad d' cd)) rfl rfl rfl rfl rfl rfl rfl hcs9.out Tryz.underlying120 infoLt rfl hone rfl rfl hwb.out.symm ?_))
    go_roundw
    case rel => exact ⟨k + 1,by omega,by go_num,hI3⟩
    case measure => simp [intOf] <;> omega
  ·obtain rfl:k = xb.length:=by omega
   go_wp2
   go_end0
   exact ⟨⟨_,rfl⟩,hI.out⟩
end Go.Proofs.YtobabnpllokkaaaGreatDoor
namespace Go.Proofs.YtobabnpllokkaaaGreatDoor
open Go.RowKit Go.WideMaps
structure Ed where
 f:ByteArray
 t:ByteArray
 k:Int
 r:Int
abbrev tEdge:TypeId:=129
abbrev tEdges:TypeId:=88
def REd (_:World) (cs:List Value) (e:Ed):Prop:=cs = [.string e.f,.string e.t,.int .i8 e.k,.int .i64 e.r]
theorem REd.stays:Stays REd:=fun _ _ _ _ _ h => h
theorem REd.keeps {e:TypeId}:Keeps e REd:=fun _ _ _ _ _ h _ _ => h
theorem REd.one:∀ (w:World) cs x,REd w cs x→∀ u ∈ cs,u.oneCell' = true:=fun w cs x h u hu => by
 obtain rfl:cs = _:=h
 simp only [List.mem_cons,List.not_mem_nil,or_false] at hu
 rcases hu with rfl | rfl | rfl | rfl <;> rfl
theorem infoEd:(Tryz.prog.info? 129).map (fun i => (i.zero,i.size,i.bytes)) = some (some (.agg #[.string ⟨#[]⟩,.string ⟨#[]⟩,.int .i8 0,.int .i64 0]),4,48):=by kernel_rfl
theorem infoEds:(Tryz.prog.info? 88).map (·.size) = some 1:=by kernel_rfl
theorem infoKd:(Tryz.prog.info? 127).map (·.size) = some 1:=by kernel_rfl
structure EdSt (B:Nat) (W:World) (rb kb ib ob:Nat) (p:ByteArray) (hv bv:Value) (kd i:Int) (es:List Ed) (lv:Value):Prop where
 r:W.heap[rb]? = some (.cells #[.string p,hv,bv] 82 (0,0))
 k:W.heap[kb]? = some (.cells #[.int .i8 kd] 127 (0,0))
 i:W.heap[ib]? = some (.cells #[.int .i64 i] 3 (0,0))
 o:W.heap[ob]? = some (.cells #[lv] tEdges (0,0))
 list:OwnL 4 B tEdge REd W lv es
 low:B ≤ ob
theorem other_block {w:World} {j k:Nat} {a b:Array Value} {t u:TypeId} (h1:w.heap[j]? = some (.cells a t (0,0))) (h2:w.heap[k]? = some (.cells b u (0,0))) (hn:t ≠ u):j ≠ k:=fun e => by
 rw [e,h2] at h1
 injection h1 with h1
 injection h1 with _ h1
 exact hn h1.symm
theorem edOne (w:World) (f t:ByteArray) (k r:Int) (e:TypeId):SlRep 4 1 REd (w.alloc (.cells #[.string f,.string t,.int .i8 k,.int .i64 r] e)) (.slice (some ⟨w.heap.size,0,none⟩) 1 1) [⟨f,t,k,r⟩] :=
 slOne w [.string f,.string t,.int .i8 k,.int .i64 r] _ e rfl rfl
theorem edOneAt (w:World) (n:Nat) (hn:w.heap.size = n) (f t:ByteArray) (k r:Int) (e:TypeId):SlRep 4 1 REd (w.alloc (.cells #[.string f,.string t,.int .i8 k,.int .i64 r] e)) (.slice (some ⟨n,0,none⟩) 1 1) [⟨f,t,k,r⟩]:=by
 rw [← hn]
 exact edOne w f t k r e
theorem set_block {w:World} {b j:Nat} {arr:Array Value} {t:TypeId} {v:Value} (h:w.heap[b]? = some (.cells arr t (0,0))):(w.setCell ⟨b,j,none⟩ v).heap[b]? = some (.cells (arr.setIfInBounds j v) t (0,0)):=by simp [World.setCell,Array.getElem?_modify,h]
section
variable {B rb kb ib ob:Nat} {W w':World} {p:ByteArray} {hv bv lv v':Value} {kd i:Int} {es:List Ed} {e:Ed}
theorem EdSt.fut (h:EdSt B W rb kb ib ob p hv bv kd i es lv) (hf:Fut W w'):EdSt B w' rb kb ib ob p hv bv kd i es lv :=
 ⟨hf.block h.r,hf.block h.k,hf.block h.i,hf.block h.o,h.list.fut REd.stays hf,h.low⟩
theorem EdSt.push (h:EdSt B W rb kb ib ob p hv bv kd i es lv) (o:OwnL 4 B tEdge REd w' v' (es ++ [e])) (g:W.grownBy w' lv.ownBlock) :
    w'.cell? ⟨ob,0,none⟩ = some lv∧w'.frozen? ⟨ob,0,none⟩ = false∧EdSt B (w'.setCell ⟨ob,0,none⟩ v') rb kb ib ob p hv bv kd i (es ++ [e]) v'∧Only (fun k => B ≤ k) W (w'.setCell ⟨ob,0,none⟩ v'):=by
 have O1:Only (fun k => lv.ownBlock = some k) W w':=Only.grown g fun k hk => hk
 have hty:=h.list.typed
 have sep:∀ {j:Nat} {a:Array Value} {t:TypeId},W.heap[j]? = some (.cells a t (0,0))→t ≠ tEdge→¬ lv.ownBlock = some j:=fun hj hn e => by
  obtain ⟨arr,h9⟩:=hty _ e
  exact other_block hj h9 hn rfl
 have r1:=O1.keeps h.r (sep h.r (by decide))
 have k1:=O1.keeps h.k (sep h.k (by decide))
 have i1:=O1.keeps h.i (sep h.i (by decide))
 have o1:=O1.keeps h.o (sep h.o (by decide))
 have O2:Only (fun k => k = ob) w' (w'.setCell ⟨ob,0,none⟩ v'):=Only.set _ _ rfl
 have o2:(w'.setCell ⟨ob,0,none⟩ v').heap[ob]? = some (.cells #[v'] tEdges (0,0)):=by simp [World.setCell,Array.getElem?_modify,o1]
 refine ⟨cell_at o1 0 _ rfl,free_at o1 0,⟨O2.keeps r1 (other_block r1 o1 (by decide)),O2.keeps k1 (other_block k1 o1 (by decide)),O2.keeps i1 (other_block i1 o1 (by decide)),o2,o.only (fun _ _ h => h) O2 fun k hk e => ?_,h.low⟩,(O1.mono fun k _ hk => (h.list.block k hk).1).trans (O2.mono fun k _ hk => by rw [hk];exact h.low)⟩
 obtain ⟨arr,h9⟩:=o.typed k hk
 exact other_block h9 o1 (by decide) e
end
set_option maxHeartbeats 4000000 in
set_option maxRecDepth 100000 in
theorem edge1_any {B rb kb ib ob:Nat} {p:ByteArray} {hv bv lv:Value} {kd i:Int} {es:List Ed} (z:Lt) (A:Option Addr) (c:Nat) (Al:Option Addr) (l cl:Nat) (Ad:Option Addr) (d cd:Nat) (w:World) (h:EdSt B w rb kb ib ob p hv bv kd i es lv) (hB:B ≤ w.heap.size) (hes:es.length ≤ 1000000000) :
    Calls Tryz.prog 245 #[.agg (z.cs (.slice A z.a.length c) (.slice Al l cl) (.slice Ad d cd)).toArray,.pointer (some ⟨rb,0,none⟩),.pointer (some ⟨kb,0,none⟩),.pointer (some ⟨ib,0,none⟩),.pointer (some ⟨ob,0,none⟩)] w fun e w' => (∃ u,e = .returned u)∧(∃ lv',EdSt B w' rb kb ib ob p hv bv kd i (es ++ [⟨p,z.p,if z.k = 2 then 2 else kd,i⟩]) lv')∧Only (fun k => B ≤ k) w w':=by
 have hbx:=heap_alloc_new w (.cells (z.cs (.slice A z.a.length c) (.slice Al l cl) (.slice Ad d cd)).toArray 120)
 have k0:=cell_at hbx 0 (.int .i8 z.k) rfl
 have k1:=cell_at hbx 1 (.string z.p) rfl
 generalize hcs:z.cs (.slice A z.a.length c) (.slice Al l cl) (.slice Ad d cd) = cs at *
 clear hcs hbx
 have f0:=Fut.alloc w (.cells cs.toArray 120)
 have g1:=h.fut f0
 have x0:=cell_at g1.r 0 (.string p) rfl
 have x1:=cell_at g1.k 0 (.int .i8 kd) rfl
 have x2:=cell_at g1.i 0 (.int .i64 i) rfl
 have f1:=Fut.alloc (w.alloc (.cells cs.toArray 120)) (.cells #[.string p,.string z.p,.int .i8 kd,.int .i64 i] tEdge)
 have hs1:(w.alloc (.cells cs.toArray 120)).heap.size = w.heap.size + 1:=by simp
 have hbe:=heap_alloc_new (w.alloc (.cells cs.toArray 120)) (.cells #[.string p,.string z.p,.int .i8 kd,.int .i64 i] tEdge)
 rw [hs1] at hbe
 have g2:=g1.fut f1
 have m0:=f1.cell k0
 have e0:=cell_at hbe 0 (.string p) rfl
 have e1:=cell_at hbe 1 (.string z.p) rfl
 have e2:=cell_at hbe 2 (.int .i8 kd) rfl
 have e3:=cell_at hbe 3 (.int .i64 i) rfl
 have ef:=free_at hbe 2
 have y0:=cell_at g2.o 0 lv rfl
 have F2:=Lib.hid (f0.trans f1)
 have hz2:((w.alloc (.cells cs.toArray 120)).alloc (.cells #[.string p,.string z.p,.int .i8 kd,.int .i64 i] tEdge)).heap.size = w.heap.size + 2:=by simp
 replace hbe:=Lib.hid hbe
 replace g2:=Lib.hid g2
 have hlv:∀ k,lv.ownBlock = some k→¬ k = w.heap.size + 1:=fun k hk => by
  have:=(h.list.block k hk).2
  omega
 clear f0 f1 g1 h
 by_cases hk:z.k = 2
 ·rw [if_pos hk]
  obtain ⟨w3,hw3⟩:∃ W,((w.alloc (.cells cs.toArray 120)).alloc (.cells #[.string p,.string z.p,.int .i8 kd,.int .i64 i] tEdge)).setCell ⟨w.heap.size + 1,2,none⟩ (.int .i8 2) = W:=⟨_,rfl⟩
  have O2:Only (fun k => k = w.heap.size + 1) ((w.alloc (.cells cs.toArray 120)).alloc (.cells #[.string p,.string z.p,.int .i8 kd,.int .i64 i] tEdge)) w3:=by rw [← hw3];exact Only.set _ _ rfl
  have hb3:w3.heap[w.heap.size + 1]? = some (.cells #[.string p,.string z.p,.int .i8 2,.int .i64 i] tEdge (0,0)):=by rw [← hw3];exact set_block hbe.out
  have q0:=cell_at hb3 0 (.string p) rfl
  have q1:=cell_at hb3 1 (.string z.p) rfl
  have q2:=cell_at hb3 2 (.int .i8 2) rfl
  have q3:=cell_at hb3 3 (.int .i64 i) rfl
  have g3:EdSt B w3 rb kb ib ob p hv bv kd i es lv:=by
   have g:=g2.out
   have hb:=hbe.out
   exact ⟨O2.keeps g.r (other_block g.r hb (by decide)),O2.keeps g.k (other_block g.k hb (by decide)),O2.keeps g.i (other_block g.i hb (by decide)),O2.keeps g.o (other_block g.o hb (by decide)),g.list.only (fun _ _ h => h) O2 fun k hk e => hlv k hk e,g.low⟩
  have y3:=cell_at g3.o 0 lv rfl
  have hz3:=O2.size
  rw [hz2] at hz3
  have hi3:=infoKd
  clear hb3
  go_enter Tryz.func245,Tryz.ntmps245
  go_wp2_with (first | (refine wpList_store_1 (wanted_none rfl _) _ _ rfl rfl rfl hi3 rfl e2 ef hw3 ?_) | (at_builtin;refine wpList_append_LB (R:=REd) (B:=B) (M:=1) (xs:=es) (ys:=[⟨p,z.p,2,i⟩]) (e:=129) (by go_simp) _ _ tEdges rfl Tryz.underlying88 (.agg #[.string ⟨#[]⟩,.string ⟨#[]⟩,.int .i8 0,.int .i64 0]) 48 infoEd rfl (by decide) REd.one REd.keeps rfl rfl (g3.list.fut REd.stays (Fut.alloc _ _)) (edOne _ p z.p 2 i _) ?l3 ?l4 ?b3 ?k3))
  case l3 => simp [maxLen];omega
  case l4 => simp;omega
  case b3 => simp;omega
  case k3 =>
  intro v' w' o' g' sn'
  obtain ⟨c0,c1,hE,hO⟩:=(g3.fut (Fut.alloc w3 _)).push o' g'
  obtain ⟨A8,c8,rfl,_,_⟩:=o'.rep.form
  rw [List.length_append,List.length_singleton] at hE hO ⊢
  obtain ⟨w5,hw5⟩:∃ W,w'.setCell ⟨ob,0,none⟩ (.slice A8 (es.length + 1) c8) = W:=⟨_,rfl⟩
  rw [hw5] at hE hO
  have HO:=Lib.hid (show Only (fun k => B ≤ k) w w5 from (((Only.fut F2.out).trans (O2.mono fun k _ hk => by omega)).trans (Only.fut (Fut.alloc _ _))).trans hO)
  replace hE:=Lib.hid hE
  have hi2:=infoEds
  clear o' g' sn' hO
  go_wp2_with (first | (refine wpList_store_1 (wanted_none rfl _) _ _ rfl rfl rfl hi2 rfl c0 c1 hw5 ?_))
  clear hw5 c0 c1
  go_wp2
  go_end0
  exact ⟨⟨_,rfl⟩,⟨_,hE.out⟩,HO.out⟩
 ·rw [if_neg hk]
  have hk2:(z.k == 2) = false:=by rw [beq_eq_false_iff_ne];exact hk
  go_enter Tryz.func245,Tryz.ntmps245
  go_wp2_with (first | (at_builtin;refine wpList_append_LB (R:=REd) (B:=B) (M:=1) (xs:=es) (ys:=[⟨p,z.p,kd,i⟩]) (e:=129) (by go_simp) _ _ tEdges rfl Tryz.underlying88 (.agg #[.string ⟨#[]⟩,.string ⟨#[]⟩,.int .i8 0,.int .i64 0]) 48 infoEd rfl (by decide) REd.one REd.keeps rfl rfl (g2.out.list.fut REd.stays (Fut.alloc _ _)) (edOneAt _ _ hz2 p z.p kd i _) ?l3 ?l4 ?b3 ?k3))
  case l3 => simp [maxLen];omega
  case l4 => simp;omega
  case b3 => simp;omega
  case k3 =>
  intro v' w' o' g' sn'
  obtain ⟨c0,c1,hE,hO⟩:=(g2.out.fut (Fut.alloc ((w.alloc (.cells cs.toArray 120)).alloc (.cells #[.string p,.string z.p,.int .i8 kd,.int .i64 i] tEdge)) _)).push o' g'
  obtain ⟨A8,c8,rfl,_,_⟩:=o'.rep.form
  rw [List.length_append,List.length_singleton] at hE hO ⊢
  obtain ⟨w5,hw5⟩:∃ W,w'.setCell ⟨ob,0,none⟩ (.slice A8 (es.length + 1) c8) = W:=⟨_,rfl⟩
  rw [hw5] at hE hO
  have HO:=Lib.hid (show Only (fun k => B ≤ k) w w5 from ((Only.fut F2.out).trans (Only.fut (Fut.alloc _ _))).trans hO)
  replace hE:=Lib.hid hE
  have hi2:=infoEds
  clear o' g' sn' hO
  go_wp2_with (first | (refine wpList_store_1 (wanted_none rfl _) _ _ rfl rfl rfl hi2 rfl c0 c1 hw5 ?_))
  clear hw5 c0 c1
  go_wp2
  go_end0
  exact ⟨⟨_,rfl⟩,⟨_,hE.out⟩,HO.out⟩
end Go.Proofs.YtobabnpllokkaaaGreatDoor
namespace Go.Proofs.YtobabnpllokkaaaGreatDoor
open Go.RowKit Go.WideMaps Go.Maps
theorem LtC.rlt {w:World} {x:Lt} {A:Option Addr} {n c:Nat} {A1:Option Addr} {n1 c1:Nat} {A2:Option Addr} {n2 c2:Nat} (h:LtC w x (.slice A n c) (.slice A1 n1 c1) (.slice A2 n2 c2)):RLt w (x.cs (.slice A n c) (.slice A1 n1 c1) (.slice A2 n2 c2)) x :=
 ⟨_,x.l.cs (.slice A1 n1 c1),x.d.cs (.slice A2 n2 c2),rfl,rfl,rfl,h.kw,h.rw',h.pw,h.args,h.left,h.right⟩
theorem filt_vs:∀ (l:List Lt) (p:Lt→Bool),((l.filter p).flatMap Lt.vs).length ≤ (l.flatMap Lt.vs).length
 | [],p => by simp
 | x :: r,p => by
  have h1:=filt_vs r p
  rw [List.filter_cons]
  split
  ·rw [List.flatMap_cons,List.flatMap_cons,List.length_append,List.length_append];omega
  ·rw [List.flatMap_cons,List.length_append];omega
def isP (x:Lt):Bool:=decide (x.k = 1)
set_option maxHeartbeats 4000000 in
set_option maxRecDepth 100000 in
theorem makes_any (x:Ru) (Ah Ab:Option Addr) (ch cb:Nat) (w:World) (hp:x.p.size ≤ 140737488351232) (h1:SlRep 5 2513169434916 RAr w (.slice Ah x.h.length ch) x.h) (h2:SlRep 16 651562446089 RLt w (.slice Ab x.b.length cb) x.b) (hl:x.hs.length + x.bs.length ≤ 400000000) :
    Calls Tryz.prog 197 #[.agg #[.string x.p,.slice Ah x.h.length ch,.slice Ab x.b.length cb]] w fun e w' => e = .returned (.bool x.makes)∧Fut w w':=by
 have HR:=Lib.hid (fun W (hW:Fut w W) => rule_any x Ah Ab ch cb W hp (h1.fut RAr.stays hW) (h2.fut RLt.stays hW) hl)
 have HV:=Lib.hid (fun W (hW:Fut w W) => ruleVars_any ⟨⟨#[]⟩,x.h,[]⟩ Ah none ch 0 W (h1.fut RAr.stays hW) SlRep.nil (by
  have h9:(Ru.hs ⟨⟨#[]⟩,x.h,[]⟩).length = x.hs.length:=rfl
  have h8:(Ru.bs ⟨⟨#[]⟩,x.h,[]⟩).length = 0:=rfl
  omega))
 have hve:(Ru.vars ⟨⟨#[]⟩,x.h,[]⟩) = ddVs x.hs:=by
  show ddVs (x.hs ++ []) = _
  rw [List.append_nil]
 rw [hve] at HV
 have hbs:=b_le_bs x.b
 have hbl:x.b.length ≤ 400000000:=by unfold Ru.bs at hl;omega
 have hbv:=Lib.hid (show (x.b.flatMap Lt.vs).length ≤ 400000000 by unfold Ru.bs at hl;omega)
 have HO:=Lib.hid (show ∀ v ∈ ddVs x.hs,v.size ≤ 140737488351232 from fun v hv => heads_ok h1 v (ddVs_mem hv))
 obtain ⟨b,hb⟩:∃ b,x.makes = b:=⟨_,rfl⟩
 rw [hb]
 unfold Ru.makes Ru.posB at hb
 obtain ⟨hv9,hhv⟩:∃ v,ddVs x.hs = v:=⟨_,rfl⟩
 rw [hhv] at HV HO hb
 obtain ⟨er,her⟩:∃ e,x.errno = e:=⟨_,rfl⟩
 rw [her] at HR hb
 have H2:=Lib.hid h2
 clear h1 h2 hl hbs hve hhv her
 obtain ⟨p,xh,xb⟩:=x
 dsimp only at *
 generalize xh.length = n at *
 have hbx:=heap_alloc_new w (.cells #[.string p,.slice Ah n ch,.slice Ab xb.length cb] 82)
 have f0:=Fut.alloc w (.cells #[.string p,.slice Ah n ch,.slice Ab xb.length cb] 82)
 by_cases he:er = 0
 rotate_left
 ·obtain rfl:b = false:=by rw [← hb];simp [he]
  clear hb
  go_enter Tryz.func197,Tryz.ntmps197
  go_wp2_with fail
  refine (HR.out _ f0).mono ?_
  rintro e w1 ⟨rfl,f1⟩
  go_wp2
  go_ret
  exact ⟨rfl,f0.trans f1⟩
 subst he
 replace hb:=Lib.hid (show (xb.any Lt.works && !allIn (limitsB (xb.filter isP)) hv9) = b by rw [← hb];rfl)
 go_enter Tryz.func197,Tryz.ntmps197
 go_wp2_with fail
 refine (HR.out _ f0).mono ?_
 rintro e w1 ⟨rfl,f1⟩
 have F1:=Lib.hid (f0.trans f1)
 have c1:=cell_at (f1.block hbx) 1 (.slice Ah n ch) rfl
 have c2:=cell_at (f1.block hbx) 2 (.slice Ab xb.length cb) rfl
 have C1:=Lib.hid c1
 clear f0 f1 hbx HR
 go_wp2_with fail
 clear c1 c2
 go_loopw [3,4,13] (fun u ws i wr => ∃ k:Nat,k ≤ xb.length∧i = .int .i64 k∧ws = .bool ((xb.take k).any Lt.works)∧Hid (OwnL 16 w1.heap.size 120 (RL0 w1) wr u ((xb.take k).filter isP))∧Hid (Fut w1 wr)) (fun _ _ i _ => xb.length - (intOf i).toNat)
 case atStart => exact ⟨0,Nat.zero_le _,rfl,rfl,Lib.hid OwnL.nil,Lib.hid (Fut.refl _)⟩
 case round =>
  obtain ⟨k,hk,rfl,rfl,hI,hF⟩:=hrel
  by_cases hlt:k < xb.length
  ·have hltI:(k:Int) < xb.length:=by omega
   have e0:(0:Int) ≤ k∧(k:Int) < xb.length:=by omega
   obtain ⟨b',off,A',c2,Al,l',cl,Ad,d',cd,rfl,hcs,_,_,g3⟩:=lt_at (H2.out.fut RLt.stays F1.out) hlt
   have hfl:=Lib.hid (show (xb.take (k + 1)).filter isP = (xb.take k).filter isP ++ (if isP xb[k] = true then [xb[k]] else []) by
    rw [List.take_succ_eq_append_getElem hlt,List.filter_append]
    cases h:isP xb[k] <;> simp [h])
   have han:(xb.take (k + 1)).any Lt.works = ((xb.take k).any Lt.works || xb[k].works):=by
    rw [List.take_succ_eq_append_getElem hlt,List.any_append]
    simp
   have hfn:=List.length_filter_le isP (xb.take k)
   rw [List.length_take] at hfn
   generalize xb[k] = z at *
   have hrl:=Lib.hid g3.rlt
   have hcs9:=Lib.hid (fun j v hj => hF.out.cell (hcs j v hj))
   obtain ⟨G,hG⟩:∃ G,(xb.take k).filter isP = G:=⟨_,rfl⟩
   obtain ⟨d0,hd0⟩:∃ d,(xb.take k).any Lt.works = d:=⟨_,rfl⟩
   rw [hG] at hfl hI hfn
   rw [hd0] at han ⊢
   clear hG hd0 hcs g3
   obtain ⟨wb,hwb⟩:∃ W,W = wr.alloc (.cells (z.cs (.slice A' z.a.length c2) (.slice Al l' cl) (.slice Ad d' cd)).toArray 120):=⟨_,rfl⟩
   have f0:Fut wr wb:=by rw [hwb];exact Fut.alloc _ _
   have hbx:wb.heap[wr.heap.size]? = some (.cells (z.cs (.slice A' z.a.length c2) (.slice Al l' cl) (.slice Ad d' cd)).toArray 120 (0,0)):=by rw [hwb];exact heap_alloc_new _ _
   replace hwb:=Lib.hid hwb
   have hone:=Lt.cs_one z A' z.a.length c2 Al l' cl Ad d' cd
   have k0:=cell_at hbx 0 (.int .i8 z.k) rfl
   have k4:=cell_at hbx 4 (.int .i8 z.l.op) rfl
   have k10:=cell_at hbx 10 (.int .i8 z.d.op) rfl
   have hrange:=Lib.hid (show ∀ j v,(z.cs (.slice A' z.a.length c2) (.slice Al l' cl) (.slice Ad d' cd))[j]? = some v→wb.cell? ⟨wr.heap.size,0 + j,none⟩ = some v from fun j v hj => by
    rw [Nat.zero_add]
    exact cell_at hbx j v (by simpa using hj))
   have hIb:=Lib.hid (hI.out.fut RL0.stays f0)
   have hFb:=Lib.hid (hF.out.trans f0)
   have hBz:=hFb.out.size
   clear f0 hbx hI hF
   by_cases ek:z.k = 1
   ·have hw0:z.works = false:=by unfold Lt.works;rw [ek];rfl
    have hp0:isP z = true:=by unfold isP;rw [ek];rfl
    rw [if_pos hp0] at hfl
    rw [hw0,Bool.or_false] at han
    obtain ⟨Au,cu,rfl,_,_⟩:=hIb.out.rep.form
    clear hw0 hp0
    replace han:=Lib.hid han
    go_wp2_with (first | (refine wpList_rangeBox (z.cs (.slice A' z.a.length c2) (.slice Al l' cl) (.slice Ad d' cd)) rfl rfl rfl rfl rfl rfl rfl hcs9.out Tryz.underlying120 infoLt rfl hone rfl rfl hwb.out.symm ?_) | (refine wpList_load_mid rfl _ _ rfl _ _ rfl (z.cs (.slice A' z.a.length c2) (.slice Al l' cl) (.slice Ad d' cd)) _ hrange.out Tryz.underlying120 rfl infoLtS ?_) | (refine wpList_slice1 (cs:=z.cs (.slice A' z.a.length c2) (.slice Al l' cl) (.slice Ad d' cd)) rfl _ rfl rfl Tryz.underlying80 infoLtF rfl rfl (by decide) (by decide) ?_) | (at_builtin;refine wpList_append_LB (R:=RL0 w1) (B:=w1.heap.size) (M:=1) (xs:=G) (ys:=[z]) (e:=120) (by go_simp) _ _ 80 rfl Tryz.underlying80 (.agg #[.int .i8 0,.string ⟨#[]⟩,.slice none 0 0,.int .i8 0,.int .i8 0,.string ⟨#[]⟩,.int .i8 0,.int .i64 0,.string ⟨#[]⟩,.slice none 0 0,.int .i8 0,.string ⟨#[]⟩,.int .i8 0,.int .i64 0,.string ⟨#[]⟩,.slice none 0 0]) 216 infoLtF rfl (by decide) RL0.one RL0.keeps rfl rfl (hIb.out.fut RL0.stays (Fut.alloc _ _)) (slOne _ (z.cs (.slice A' z.a.length c2) (.slice Al l' cl) (.slice Ad d' cd)) z _ rfl hrl.out) ?l3 ?l4 ?b3 ?k3))
    case l3 => simp [maxLen];omega
    case l4 => simp;omega
    case b3 => simp;omega
    case k3 =>
    intro v' w' o' g' sn'
    have HI:=Lib.hid (show OwnL 16 w1.heap.size 120 (RL0 w1) w' v' ((xb.take (k + 1)).filter isP) by rw [hfl.out];exact o')
    have HF:=Lib.hid ((hFb.out.trans (Fut.alloc _ _)).grown g' (fun k hk => (hIb.out.block k hk).1))
    clear o' g' sn'
    go_wp2
    go_roundw
    case rel => exact ⟨k + 1,by omega,by go_num,by rw [han.out],HI,HF⟩
    case measure => simp [intOf] <;> omega
   ·have hp0:¬ isP z = true:=by unfold isP;simpa using ek
    rw [if_neg hp0,List.append_nil] at hfl
    have HI:=Lib.hid (show OwnL 16 w1.heap.size 120 (RL0 w1) wb u3 ((xb.take (k + 1)).filter isP) by rw [hfl.out];exact hIb.out)
    clear hp0
    by_cases e3:z.k = 3
    ·cases d0
     ·by_cases el:z.l.op = 0
      ·by_cases ed:z.d.op = 0
       ·have hw0:z.works = false:=by unfold Lt.works;rw [e3,el,ed];rfl
        rw [hw0] at han
        replace han:=Lib.hid (show (xb.take (k + 1)).any Lt.works = false from han)
        clear hw0
        go_wp2_with (first | (refine wpList_rangeBox (z.cs (.slice A' z.a.length c2) (.slice Al l' cl) (.slice Ad d' cd)) rfl rfl rfl rfl rfl rfl rfl hcs9.out Tryz.underlying120 infoLt rfl hone rfl rfl hwb.out.symm ?_))
        go_roundw
        case rel => exact ⟨k + 1,by omega,by go_num,by rw [han.out],HI,hFb⟩
        case measure => simp [intOf] <;> omega
       ·have hw0:z.works = true:=by unfold Lt.works;rw [e3,el,decide_eq_false ed];rfl
        rw [hw0] at han
        replace han:=Lib.hid (show (xb.take (k + 1)).any Lt.works = true from han)
        clear hw0
        go_wp2_with (first | (refine wpList_rangeBox (z.cs (.slice A' z.a.length c2) (.slice Al l' cl) (.slice Ad d' cd)) rfl rfl rfl rfl rfl rfl rfl hcs9.out Tryz.underlying120 infoLt rfl hone rfl rfl hwb.out.symm ?_))
        go_roundw
        case rel => exact ⟨k + 1,by omega,by go_num,by rw [han.out];simp [ed],HI,hFb⟩
        case measure => simp [intOf] <;> omega
      ·have hw0:z.works = true:=by unfold Lt.works;rw [e3,decide_eq_false el];rfl
       rw [hw0] at han
       replace han:=Lib.hid (show (xb.take (k + 1)).any Lt.works = true from han)
       clear hw0
       go_wp2_with (first | (refine wpList_rangeBox (z.cs (.slice A' z.a.length c2) (.slice Al l' cl) (.slice Ad d' cd)) rfl rfl rfl rfl rfl rfl rfl hcs9.out Tryz.underlying120 infoLt rfl hone rfl rfl hwb.out.symm ?_))
       go_roundw
       case rel => exact ⟨k + 1,by omega,by go_num,by rw [han.out],HI,hFb⟩
       case measure => simp [intOf] <;> omega
     ·replace han:=Lib.hid (show (xb.take (k + 1)).any Lt.works = true from han.trans (Bool.true_or _))
      go_wp2_with (first | (refine wpList_rangeBox (z.cs (.slice A' z.a.length c2) (.slice Al l' cl) (.slice Ad d' cd)) rfl rfl rfl rfl rfl rfl rfl hcs9.out Tryz.underlying120 infoLt rfl hone rfl rfl hwb.out.symm ?_))
      go_roundw
      case rel => exact ⟨k + 1,by omega,by go_num,by rw [han.out],HI,hFb⟩
      case measure => simp [intOf] <;> omega
    ·have hw0:z.works = false:=by unfold Lt.works;rw [decide_eq_false e3];rfl
     rw [hw0,Bool.or_false] at han
     replace han:=Lib.hid han
     clear hw0
     go_wp2_with (first | (refine wpList_rangeBox (z.cs (.slice A' z.a.length c2) (.slice Al l' cl) (.slice Ad d' cd)) rfl rfl rfl rfl rfl rfl rfl hcs9.out Tryz.underlying120 infoLt rfl hone rfl rfl hwb.out.symm ?_))
     go_roundw
     case rel => exact ⟨k + 1,by omega,by go_num,by rw [han.out],HI,hFb⟩
     case measure => simp [intOf] <;> omega
  ·obtain rfl:k = xb.length:=by omega
   rw [List.take_length] at hI ⊢
   have hfl:=Lib.hid (List.length_filter_le isP xb)
   have hfv:=Lib.hid (filt_vs xb isP)
   obtain ⟨G,hG⟩:∃ G,xb.filter isP = G:=⟨_,rfl⟩
   obtain ⟨d0,hd0⟩:∃ d,xb.any Lt.works = d:=⟨_,rfl⟩
   rw [hG] at hI hb hfl hfv
   rw [hd0] at hb ⊢
   clear hG hd0
   have k1:=hF.out.cell C1.out
   have F2:=Lib.hid (F1.out.trans hF.out)
   obtain ⟨Au,cu,rfl,_,_⟩:=hI.out.rep.form
   cases d0
   ·obtain rfl:b = false:=hb.out.symm.trans (Bool.false_and _)
    go_wp2_with fail
    refine wp_graph 12 [.d,.d,.d,.d,.d,.d,.d,.d,.d,.d,.d,.d] (by kernel_rfl) (by kernel_rfl) (by kernel_rfl) ?_
    simp only [takS,Exs]
    iterate 12 apply Exists.intro
    iterate 2
     apply Run.valG (wanted_none rfl _)
     ·intro w1 h1 hk
      go_simp;rfl
     simp only [actS]
    iterate 8
     apply Run.skip (by first | (go_simp;done) | (go_simp;exact fun h => nomatch h))
     simp only [actS]
    iterate 2
     apply Run.valG (wanted_none rfl _)
     ·intro w1 h1 hk
      go_simp;rfl
     simp only [actS]
    apply Run.done
    intro w2 h2 hk
    clear hk
    have F3:=Lib.hid (F2.out.trans ((Fut.drew _).trans h2))
    clear h2
    go_wp2
    go_ret
    exact ⟨rfl,F3.out⟩
   ·have HL:=Lib.hid (fun W (hW:Fut wr W) => limits_any Au cu G W (((hI.out.fut RL0.stays hW).rep.imp fun cs x hx => RLt.stays _ _ _ _ (hF.out.trans hW) hx)) (by unfold maxLen;omega) (by have:=hfl.out;omega) (by have:=hfv.out;have:=hbv.out;omega))
    obtain ⟨a,ha⟩:∃ a,allIn (limitsB G) hv9 = a:=⟨_,rfl⟩
    rw [ha] at hb
    obtain rfl:b = !a:=hb.out.symm.trans (Bool.true_and _)
    obtain ⟨Lx,hLx⟩:∃ v,limitsB G = v:=⟨_,rfl⟩
    rw [hLx] at HL ha
    go_wp2_with fail
    refine wp_graph 12 [.d,.d,.d,.r (fun v W => ∃ fb mb lv,v = .pointer (some ⟨fb,0,none⟩)∧FdSt wr.heap.size W fb mb Lx lv),.d,.d,.d,.r (fun v W => Nms wr.heap.size W v hv9),.d,.d,.d,.d] (by kernel_rfl) (by kernel_rfl) (by kernel_rfl) ?_
    simp only [takS,Exs]
    iterate 10 apply Exists.intro
    iterate 2
     apply Run.valG (wanted_none rfl _)
     ·intro w1 h1 hk
      go_simp;rfl
     simp only [actS]
    apply Run.valG (by go_simp)
    ·intro w1 h1 hk
     go_simp;rfl
    simp only [actS]
    apply Run.callR (by go_simp) (by intro v w w' hf hs;exact (by obtain ⟨fb,mb,lv,g1,g2⟩:=hs;exact ⟨fb,mb,lv,g1,g2.fut hf⟩)) (fun _ _ => by go_simp;exact ⟨rfl,rfl⟩)
    ·intro w1 h1 hk
     have q1:=h1.cell k1;have hg:=(Fut.drew _).trans h1;have hgw:=F2.out.trans hg
     refine (HL.out _ hg).mono ?_;rintro e w' ⟨fb,mb,lv,rfl,g1,hf⟩;exact ⟨_,rfl,hf,fb,mb,lv,rfl,⟨g1.cell,g1.list.base hg.size,g1.map,g1.sizes,Nat.le_trans hg.size g1.low.1,Nat.le_trans hg.size g1.low.2⟩⟩
    intro v3
    simp only [actS]
    apply Run.valG (by go_simp)
    ·intro w1 h1 hk
     go_simp;rfl
    simp only [actS]
    iterate 2
     apply Run.valG (by go_simp)
     ·intro w1 h1 hk
      have q1:=h1.cell k1;have hg:=(Fut.drew _).trans h1;have hgw:=F2.out.trans hg
      have hcw:=fun b o => Below.cell (p:=⟨b,o,none⟩) h1
      go_simp;rfl
     simp only [actS]
    apply Run.callR (by go_simp) (by intro v w w' hf hs;exact hs.fut RNm.stays hf) (fun _ _ => by go_simp;exact ⟨rfl,rfl⟩)
    ·intro w1 h1 hk
     have f3:=Facts.get hk 0 rfl (by kernel_rfl)
     have q1:=h1.cell k1;have hg:=(Fut.drew _).trans h1;have hgw:=F2.out.trans hg
     refine (HV.out _ hgw).mono ?_;rintro e w' ⟨v,rfl,g1,hf⟩;exact ⟨_,rfl,hf,g1.base hg.size⟩
    intro v7
    simp only [actS]
    apply Run.call (by go_simp) (fun _ _ => by go_simp;exact ⟨rfl,rfl⟩)
    ·intro w1 h1 hk
     have f3:=Facts.get hk 0 rfl (by kernel_rfl)
     have f7:=Facts.get hk 1 rfl (by kernel_rfl)
     have q1:=h1.cell k1;have hg:=(Fut.drew _).trans h1;have hgw:=F2.out.trans hg
     obtain ⟨fb,mb,lv,rfl,g1⟩:=f3;obtain ⟨A,c,rfl,_,_⟩:=f7.rep.form;refine (allF_any A c hv9 _ g1 f7.rep (by unfold maxLen;omega) HO.out).mono ?_;rintro e w' ⟨rfl,rfl⟩;rw [ha];exact ⟨rfl,Fut.refl _⟩
    simp only [actS]
    apply Run.valG (by go_simp)
    ·intro w1 h1 hk
     have q1:=h1.cell k1;have hg:=(Fut.drew _).trans h1;have hgw:=F2.out.trans hg
     have hcw:=fun b o => Below.cell (p:=⟨b,o,none⟩) h1
     go_simp;rfl
    simp only [actS]
    iterate 2
     apply Run.valG (wanted_none rfl _)
     ·intro w1 h1 hk
      go_simp;rfl
     simp only [actS]
    apply Run.done
    intro w2 h2 hk
    obtain ⟨f3,f7,_⟩:=hk
    have F3:=Lib.hid (F2.out.trans ((Fut.drew _).trans h2))
    clear h2 f3 f7
    go_wp2
    go_ret
    exact ⟨rfl,F3.out⟩
end Go.Proofs.YtobabnpllokkaaaGreatDoor
namespace Go.Proofs.YtobabnpllokkaaaGreatDoor
open Go.RowKit Go.WideMaps
theorem set_under (w:World) (o p:Array Value) (t u:TypeId) (v:Value):((w.alloc (.cells o t)).alloc (.cells p u)).setCell ⟨w.heap.size,0,none⟩ v = (w.alloc (.cells (o.setIfInBounds 0 v) t)).alloc (.cells p u):=by
 unfold World.setCell World.alloc
 congr 1
 refine Array.ext_getElem? fun j => ?_
 rw [Array.getElem?_modify]
 by_cases hj:j = w.heap.size
 ·subst hj
  simp [Array.getElem?_push]
 ·rw [if_neg (Ne.symm hj)]
  simp [Array.getElem?_push,hj]
theorem wpList_rangeBox2 {P:Program} {ops:Array Oper} {rest:List Oper} {o2 o3 o4 o5 o6:Oper} {a:Act} {Q:Exit→Act→World→Prop} {w w':World} {T tI:TypeId} {x x5 y5 x6 y6:Operand} {b o:Nat} (cs:List Value) (vi:Value) {z zi:Value} {fs:Array Field}
    (g2:o2.guard = none) (g3:o3.guard = none) (g4:o4.guard = none) (g5:o5.guard = none) (g6:o6.guard = none) (h2:o2.op = .load T x) (h3:o3.op = .alloc tI) (h4:o4.op = .alloc T) (h5:o5.op = .store tI x5 y5) (h6:o6.op = .store T x6 y6) (hx:a.eval x = .pointer (some ⟨b,o,none⟩)) (hc:∀ j v,cs[j]? = some v→w.cell? ⟨b,o + j,none⟩ = some v)
    (hu:P.underlying T = some (.struct fs)) (hi:(P.info? T).map (fun i => (i.zero,i.size)) = some (some z,cs.length)) (hz:z.cells.size = cs.length) (h1:∀ v ∈ cs,v.oneCell' = true)
    (hii:(P.info? tI).map (fun i => (i.zero,i.size)) = some (some zi,1)) (hzi:zi.cells.size = 1) (hvi:vi.oneCell' = true)
    (hy5:(((a.put o2.dst (.agg cs.toArray)).put o3.dst (.pointer (some ⟨w.heap.size,0,none⟩))).put o4.dst (.pointer (some ⟨w.heap.size + 1,0,none⟩))).eval y5 = vi)
    (hx5:(((a.put o2.dst (.agg cs.toArray)).put o3.dst (.pointer (some ⟨w.heap.size,0,none⟩))).put o4.dst (.pointer (some ⟨w.heap.size + 1,0,none⟩))).eval x5 = .pointer (some ⟨w.heap.size,0,none⟩))
    (hx6:((((a.put o2.dst (.agg cs.toArray)).put o3.dst (.pointer (some ⟨w.heap.size,0,none⟩))).put o4.dst (.pointer (some ⟨w.heap.size + 1,0,none⟩))).put o5.dst undef).eval x6 = .pointer (some ⟨w.heap.size + 1,0,none⟩))
    (hy6:((((a.put o2.dst (.agg cs.toArray)).put o3.dst (.pointer (some ⟨w.heap.size,0,none⟩))).put o4.dst (.pointer (some ⟨w.heap.size + 1,0,none⟩))).put o5.dst undef).eval y6 = .agg cs.toArray)
    (hw:(w.alloc (.cells #[vi] tI)).alloc (.cells cs.toArray T) = w')
    (h:wpList P ops Q rest (((((a.put o2.dst (.agg cs.toArray)).put o3.dst (.pointer (some ⟨w.heap.size,0,none⟩))).put o4.dst (.pointer (some ⟨w.heap.size + 1,0,none⟩))).put o5.dst undef).put o6.dst undef) w'):wpList P ops Q (o2 :: o3 :: o4 :: o5 :: o6 :: rest) a w:=by
 subst hw
 have hs:(P.info? T).map (·.size) = some cs.length:=by
  cases hq:P.info? T with
  | none => simp [hq] at hi
  | some i =>
   rw [hq] at hi
   simp at hi
   simp [hi.2]
 have hsi:(P.info? tI).map (·.size) = some 1:=by
  cases hq:P.info? tI with
  | none => simp [hq] at hii
  | some i =>
   rw [hq] at hii
   simp at hii
   simp [hii.2]
 refine wpList_load_mid g2 T x h2 b o hx cs _ hc hu rfl hs ?_
 refine wpList_of_run (wanted_none g3 _) (v:=.pointer (some ⟨w.heap.size,0,none⟩)) (w':=w.alloc (.cells zi.cells tI)) ?_ ?_
 ·unfold execOp
  simp only [h3,Sem.run_bind,Sem.run_pure,Result.andThen_ok,run_alloc_of hii]
 have hsz:(w.alloc (.cells zi.cells tI)).heap.size = w.heap.size + 1:=by simp
 refine wpList_of_run (wanted_none g4 _) (v:=.pointer (some ⟨w.heap.size + 1,0,none⟩)) (w':=(w.alloc (.cells zi.cells tI)).alloc (.cells z.cells T)) ?_ ?_
 ·unfold execOp
  simp only [h4,Sem.run_bind,Sem.run_pure,Result.andThen_ok,run_alloc_of hi,hsz]
 obtain ⟨c0,hc0⟩:∃ c0,zi.cells = #[c0]:=by
  have:=hzi
  cases hq:zi.cells with
  | mk l =>
   rw [hq] at this
   match l,this with
   | [c0],_ => exact ⟨c0,rfl⟩
 have hb:=(Fut.alloc (w.alloc (.cells zi.cells tI)) (.cells z.cells T)).block (heap_alloc_new w (.cells zi.cells tI))
 rw [hc0] at hb
 refine wpList_store_1 (wanted_none g5 _) x5 y5 h5 hx5 hy5 hsi hvi (u:=c0) (cell_at (by rw [hc0];exact hb) 0 c0 rfl) (free_at (by rw [hc0];exact hb) 0) (set_under w zi.cells z.cells tI T vi) ?_
 have e1:zi.cells.setIfInBounds 0 vi = #[vi]:=by rw [hc0];rfl
 rw [e1]
 refine wpList_of_skip (wanted_none g6 _) (w':=(w.alloc (.cells #[vi] tI)).alloc (.cells cs.toArray T)) ?_ h
 have hsz2:(w.alloc (.cells #[vi] tI)).heap.size = w.heap.size + 1:=by simp
 unfold execOp
 have h9:=box_store (P:=P) (w.alloc (.cells #[vi] tI)) cs z.cells hs hz h1
 rw [hsz2] at h9
 simp only [h6,hx6,hy6,Sem.run_bind,Sem.run_pure,Result.andThen_ok,h9]
end Go.Proofs.YtobabnpllokkaaaGreatDoor
