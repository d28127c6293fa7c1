/- Parts. -/
import Derived.Test.YtobabnpllokkaaaGreatDoorM19
import Derived.Test.YtobabnpllokkaaaGreatDoorM07
import Derived.Test.YtobabnpllokkaaaGreatDoorM02
import Derived.Test.YtobabnpllokkaaaGreatDoorM05
import Derived.Test.YtobabnpllokkaaaGreatDoorM00
set_option linter.unusedSimpArgs false
set_option linter.unusedVariables false
namespace Go.Proofs.YtobabnpllokkaaaGreatDoor
open Go.RowKit Go.WideMaps Go.Maps
theorem totS_tri {x s:ByteArray} (h:x ≠ s):cmpS x s < 0∨cmpS s x < 0:=by
 rcases Int.lt_trichotomy (cmpS x s) 0 with h1 | h1 | h1
 ·exact .inl h1
 ·exact absurd ((totS.eq0 x s).1 h1) h
 ·exact .inr (by have:=totS.neg x s;omega)
set_option maxHeartbeats 1600000 in
set_option maxRecDepth 100000 in
theorem rput_any {B:Nat} (s:ByteArray) (A:Option Addr) (c:Nat) (L:List ByteArray) (w:World) (h:OwnL 1 B 9 RNm w (.slice A L.length c) L) (hU:Up cmpS L) (hB:B ≤ w.heap.size) (hl:L.length ≤ 100000000) :
    Calls Tryz.prog 93 #[.slice A L.length c,.string s] w fun e w' => ∃ v L',e = .returned v∧OwnL 1 B 9 RNm w' v L'∧Up cmpS L'∧(∀ x,x ∈ L'↔x ∈ L∨x = s)∧L'.length ≤ L.length + 1∧Fut w w':=by
 have H:=Lib.hid h
 have HU:=Lib.hid hU
 have HB:=Lib.hid hB
 clear h hU hB
 have HH:=Lib.hid (rhas9_any s A c L w H.out.rep (by decide))
 go_enter Tryz.func93,Tryz.ntmps93
 go_wp2_with fail
 refine HH.out.mono ?_
 rintro e w1 ⟨rfl,hw1⟩
 replace hw1:=hw1.symm
 subst hw1
 clear HH
 by_cases hin:s ∈ L
 ·have hd:decide (s ∈ L) = true:=decide_eq_true hin
  rw [hd]
  go_wp2
  go_ret
  exact ⟨_,L,rfl,H.out,HU.out,fun x => ⟨.inl,fun h => h.elim id fun h => h ▸ hin⟩,by omega,Fut.refl _⟩
 ·have hd:decide (s ∈ L) = false:=decide_eq_false hin
  rw [hd]
  have Hin:=Lib.hid hin
  clear hd hin
  go_wp2_with fail
  go_loopw [5,6,7] (fun u d i W => ∃ (k:Nat) (b:Bool) (out:List ByteArray),i = .int .i64 k∧k ≤ L.length∧d = .bool b∧Hid (PutI L s k b out)∧Hid (out.length ≤ cond b (k + 1) k)∧Hid (Nms w.heap.size W u out)∧Hid (Fut w W)) (fun _ _ i _ => L.length - (intOf i).toNat)
  case atStart => exact ⟨0,false,[],rfl,Nat.zero_le _,rfl,Lib.hid (PutI.start L s),Lib.hid (Nat.zero_le _),Lib.hid OwnL.nil,Lib.hid (Fut.refl _)⟩
  case round =>
   obtain ⟨k,b,out,rfl,hk,rfl,hP,hLn,hO,hF⟩:=hrel
   obtain ⟨wq,hwq⟩:∃ x,x = wr:=⟨_,rfl⟩
   subst hwq
   obtain ⟨Au,cu,rfl,hu1,hu2⟩:=hO.out.rep.form
   by_cases hlt:k < L.length
   ·have hltI:(k:Int) < L.length:=by omega
    have e0:(0:Int) ≤ k∧(k:Int) < L.length:=by omega
    obtain ⟨bx,ox,rfl,uN⟩:=nm_at H.out.rep hlt
    have u0:=hF.out.cell uN
    have UN:=Lib.hid uN
    clear uN
    have hxi:=Lib.hid (show L[k]? = some L[k] from List.getElem?_eq_getElem hlt)
    have hne:L[k] ≠ s:=fun e => Hin.out (e ▸ List.getElem_mem hlt)
    generalize L[k] = x at *
    cases b
    ·have hol:out.length ≤ k:=hLn.out
     rcases totS_tri hne with hx | hx
     ·have hls:Op.bytesLess s.toList x.toList = false:=by
        rw [less_cmpS]
        exact decide_eq_false (by have:=totS.neg x s;omega)
      have HP2:=Lib.hid (hP.out.past hxi.out hx)
      clear hP hLn
      go_wp2_with (first | (at_builtin;refine wpList_append_LB (R:=RNm) (B:=w.heap.size) (M:=1) (xs:=out) (ys:=[x]) (e:=9) (wanted_none rfl _) _ _ tVl' rfl Tryz.underlying76 (.string ⟨#[]⟩) 16 infoNm rfl (by decide) RNm.one RNm.keeps rfl rfl (hO.out.fut RNm.stays (Fut.alloc _ _)) (nmOne _ _ _) ?l3 ?m3 ?b3 ?k3))
      case l3 => simp [maxLen];omega
      case m3 => simp;omega
      case b3 => have:=hF.out.size;simp;omega
      case k3 =>
      intro v3 w3 o3 g3 _
      have HO2:=Lib.hid o3
      have HF2:=Lib.hid ((hF.out.trans (Fut.alloc _ _)).grown g3 (fun k hk => (hO.out.block k hk).1))
      clear o3 g3
      obtain ⟨A3,c3,rfl,_,_⟩:=HO2.out.rep.form
      go_wp2
      go_roundw
      case rel => exact ⟨k + 1,false,_,by go_num,by omega,rfl,HP2,Lib.hid (by simp [cond];omega),HO2,HF2⟩
      case measure => simp [intOf] <;> omega
     ·have hls:Op.bytesLess s.toList x.toList = true:=by
        rw [less_cmpS]
        exact decide_eq_true hx
      have HP2:=Lib.hid (hP.out.here hxi.out hx)
      clear hP hLn
      go_wp2_with (first | (at_builtin;refine wpList_append_LB (R:=RNm) (B:=w.heap.size) (M:=1) (xs:=out) (ys:=[s]) (e:=9) (wanted_none rfl _) _ _ tVl' rfl Tryz.underlying76 (.string ⟨#[]⟩) 16 infoNm rfl (by decide) RNm.one RNm.keeps rfl rfl (hO.out.fut RNm.stays (Fut.alloc _ _)) (nmOne _ _ _) ?l4 ?m4 ?b4 ?k4))
      case l4 => simp [maxLen];omega
      case m4 => simp;omega
      case b4 => have:=hF.out.size;simp;omega
      case k4 =>
      intro v4 w4 o4 g4 _
      obtain ⟨out2,ho2⟩:∃ o,out ++ [s] = o:=⟨_,rfl⟩
      rw [ho2] at o4 HP2
      have hol2:=Lib.hid (show out2.length = out.length + 1 by rw [← ho2];simp)
      have HO2:=Lib.hid o4
      have HF2:=Lib.hid ((hF.out.trans (Fut.alloc _ _)).grown g4 (fun k hk => (hO.out.block k hk).1))
      clear o4 g4 ho2
      obtain ⟨A4,c4,rfl,_,_⟩:=HO2.out.rep.form
      have u1:=HF2.out.cell UN.out
      clear u0
      go_wp2_with (first | (at_builtin;refine wpList_append_LB (R:=RNm) (B:=w.heap.size) (M:=1) (xs:=out2) (ys:=[x]) (e:=9) (wanted_none rfl _) _ _ tVl' rfl Tryz.underlying76 (.string ⟨#[]⟩) 16 infoNm rfl (by decide) RNm.one RNm.keeps rfl rfl (HO2.out.fut RNm.stays (Fut.alloc _ _)) (nmOne _ _ _) ?l5 ?m5 ?b5 ?k5))
      case l5 => have h9:=hol2.out;simp [maxLen];omega
      case m5 => have h9:=hol2.out;simp;omega
      case b5 => have:=HF2.out.size;simp;omega
      case k5 =>
      intro v5 w5 o5 g5 _
      have HO3:=Lib.hid o5
      have HF3:=Lib.hid ((HF2.out.trans (Fut.alloc _ _)).grown g5 (fun k hk => (HO2.out.block k hk).1))
      clear o5 g5
      obtain ⟨A5,c5,rfl,_,_⟩:=HO3.out.rep.form
      go_wp2
      go_roundw
      case rel => exact ⟨k + 1,true,_,by go_num,by omega,rfl,HP2,Lib.hid (by have h9:=hol2.out;simp [cond];omega),HO3,HF3⟩
      case measure => simp [intOf] <;> omega
    ·have hol:out.length ≤ k + 1:=hLn.out
     have HP2:=Lib.hid (hP.out.on hxi.out)
     clear hP hLn
     go_wp2_with (first | (at_builtin;refine wpList_append_LB (R:=RNm) (B:=w.heap.size) (M:=1) (xs:=out) (ys:=[x]) (e:=9) (wanted_none rfl _) _ _ tVl' rfl Tryz.underlying76 (.string ⟨#[]⟩) 16 infoNm rfl (by decide) RNm.one RNm.keeps rfl rfl (hO.out.fut RNm.stays (Fut.alloc _ _)) (nmOne _ _ _) ?l6 ?m6 ?b6 ?k6))
     case l6 => simp [maxLen];omega
     case m6 => simp;omega
     case b6 => have:=hF.out.size;simp;omega
     case k6 =>
     intro v6 w6 o6 g6 _
     have HO2:=Lib.hid o6
     have HF2:=Lib.hid ((hF.out.trans (Fut.alloc _ _)).grown g6 (fun k hk => (hO.out.block k hk).1))
     clear o6 g6
     obtain ⟨A6,c6,rfl,_,_⟩:=HO2.out.rep.form
     go_wp2
     go_roundw
     case rel => exact ⟨k + 1,true,_,by go_num,by omega,rfl,HP2,Lib.hid (by simp [cond];omega),HO2,HF2⟩
     case measure => simp [intOf] <;> omega
   ·obtain rfl:k = L.length:=by omega
    have hfin:=Lib.hid (hP.out.fin HU.out)
    cases b
    ·have hol:out.length ≤ L.length:=hLn.out
     have hf:=hfin.out
     simp only [Bool.false_eq_true,if_false] at hf
     have Hf:=Lib.hid hf
     clear hP hLn hf hfin
     go_wp2_with (first | (at_builtin;refine wpList_append_LB (R:=RNm) (B:=w.heap.size) (M:=1) (xs:=out) (ys:=[s]) (e:=9) (wanted_none rfl _) _ _ tVl' rfl Tryz.underlying76 (.string ⟨#[]⟩) 16 infoNm rfl (by decide) RNm.one RNm.keeps rfl rfl (hO.out.fut RNm.stays (Fut.alloc _ _)) (nmOne _ _ _) ?l7 ?m7 ?b7 ?k7))
     case l7 => simp [maxLen];omega
     case m7 => simp;omega
     case b7 => have:=hF.out.size;simp;omega
     case k7 =>
     intro v7 w7 o7 g7 _
     have HO2:=Lib.hid o7
     have HF2:=Lib.hid ((hF.out.trans (Fut.alloc _ _)).grown g7 (fun k hk => (hO.out.block k hk).1))
     clear o7 g7
     obtain ⟨A7,c7,rfl,_,_⟩:=HO2.out.rep.form
     go_wp2
     go_ret
     exact ⟨_,_,rfl,HO2.out.base HB.out,Hf.out.1,Hf.out.2,by simp;omega,HF2.out⟩
    ·have hol:out.length ≤ L.length + 1:=hLn.out
     have hf:=hfin.out
     simp only [if_true] at hf
     have Hf:=Lib.hid hf
     clear hP hf hfin
     go_wp2
     go_ret
     exact ⟨_,_,rfl,hO.out.base HB.out,Hf.out.1,Hf.out.2,by omega,hF.out⟩
end Go.Proofs.YtobabnpllokkaaaGreatDoor
namespace Go.Proofs.YtobabnpllokkaaaGreatDoor
open Go.RowKit
set_option maxHeartbeats 800000 in
theorem rvariable_any (s:ByteArray) (w:World) (hs:s.size ≤ 140737488351232):Calls Tryz.prog 360 #[.string s] w fun e w' => e = .returned (.bool (wordT 65 90 s))∧Fut w w':=by
 have hw:=Lib.hid (written_any s 65 90 w hs (fun c h1 h2 => by simp [letterN];omega) (by omega))
 go_enter Tryz.func360,Tryz.ntmps360
 go_wp2_with fail
 refine hw.out.mono ?_
 rintro e w1 ⟨rfl,rfl⟩
 go_wp2
 go_ret
 exact ⟨rfl,Fut.refl _⟩
set_option maxHeartbeats 2000000 in
set_option maxRecDepth 100000 in
theorem rterm_any (t:Tm) (w:World) (ht:t.ok):Calls Tryz.prog 347 #[.agg #[.string t.v,.int .i8 t.x.k,.int .i64 t.x.n,.string t.x.s]] w fun e w' => e = .returned (.bool t.good)∧Fut w w':=by
 have HW:=Lib.hid (fun W => rvariable_any t.v W ht.1)
 have HC:=Lib.hid (fun W => rcheck_any t.x.k t.x.n t.x.s W ht.2.2.2)
 have hchk:=Lib.hid (chk_or t.x.k t.x.n t.x.s)
 obtain ⟨b,hb⟩:∃ b,t.good = b:=⟨_,rfl⟩
 rw [hb]
 replace hb:=Lib.hid hb
 obtain ⟨v,k,n,s⟩:=t
 clear ht
 dsimp only at *
 have hbx:=heap_alloc_new w (.cells #[.string v,.int .i8 k,.int .i64 n,.string s] 115)
 have f0:=Fut.alloc w (.cells #[.string v,.int .i8 k,.int .i64 n,.string s] 115)
 have hs1:(w.alloc (.cells #[.string v,.int .i8 k,.int .i64 n,.string s] 115)).heap.size = w.heap.size + 1:=by simp
 have f1:=Fut.alloc (w.alloc (.cells #[.string v,.int .i8 k,.int .i64 n,.string s] 115)) (.cells #[.int .i8 0,.int .i64 0,.string ⟨#[]⟩] 113)
 have hb2:=heap_alloc_new (w.alloc (.cells #[.string v,.int .i8 k,.int .i64 n,.string s] 115)) (.cells #[.int .i8 0,.int .i64 0,.string ⟨#[]⟩] 113)
 rw [hs1] at hb2
 have hb1:=f1.block hbx
 have F01:=Lib.hid (f0.trans f1)
 have HB1:=Lib.hid hb1
 have HB2:=Lib.hid hb2
 clear hbx f0 f1 hs1 hb1 hb2
 by_cases hv:v.toList = []
 ·have hvb:(v.toList == []) = true:=by rw [hv];rfl
  rcases hchk.out with hc | hc
  ·obtain rfl:b = true:=by rw [← hb.out];simp [Tm.good,hv,hc]
   rw [hc] at HC
   go_enter Tryz.func347,Tryz.ntmps347
   go_wp2_with fail
   refine (HC.out _).mono ?_
   rintro e w1 ⟨rfl,f1⟩
   go_wp2
   go_ret
   exact ⟨rfl,F01.out.trans f1⟩
  ·obtain rfl:b = false:=by rw [← hb.out];simp [Tm.good,hv,hc]
   rw [hc] at HC
   go_enter Tryz.func347,Tryz.ntmps347
   go_wp2_with fail
   refine (HC.out _).mono ?_
   rintro e w1 ⟨rfl,f1⟩
   go_wp2
   go_ret
   exact ⟨rfl,F01.out.trans f1⟩
 ·have hvb:(v.toList == []) = false:=by rw [beq_eq_false_iff_ne];exact hv
  by_cases hu:v.toList = [95]
  ·have hub:(v.toList == [95]) = true:=by rw [hu];rfl
   have hgo:b = (decide (k = 0) && decide (n = 0) && decide (s.toList = [])):=by rw [← hb.out];simp [Tm.good,hu]
   go_enter Tryz.func347,Tryz.ntmps347
   go_wp2
   all_goals go_ret
   all_goals refine ⟨?_,(Fut.alloc _ _).trans (Fut.alloc _ _)⟩
   all_goals (rw [hgo];simp_all)
  ·have hub:(v.toList == [95]) = false:=by rw [beq_eq_false_iff_ne];exact hu
   have hgo:b = ((decide (k = 0) && decide (n = 0) && decide (s.toList = [])) && wordT 65 90 v):=by rw [← hb.out];simp [Tm.good,hu,hv]
   obtain ⟨q,hq⟩:∃ q,wordT 65 90 v = q:=⟨_,rfl⟩
   rw [hq] at HW hgo
   clear hq hb
   go_enter Tryz.func347,Tryz.ntmps347
   go_wp2_with fail
   refine (HW.out _).mono ?_
   rintro e w1 ⟨rfl,f1⟩
   have F1:=Lib.hid (F01.out.trans f1)
   have b1:=f1.block HB1.out
   have b2:=f1.block HB2.out
   have c1:=cell_at b1 1 _ rfl
   have c2:=cell_at b1 2 _ rfl
   have c3:=cell_at b1 3 _ rfl
   have d0:=cell_at b2 0 _ rfl
   have d1:=cell_at b2 1 _ rfl
   have d2:=cell_at b2 2 _ rfl
   clear f1 b1 b2
   cases q
   ·go_wp2
    go_ret
    exact ⟨by rw [hgo];simp,F1.out⟩
   ·go_wp2
    all_goals go_ret
    all_goals refine ⟨?_,F1.out⟩
    all_goals (rw [hgo];simp_all)
end Go.Proofs.YtobabnpllokkaaaGreatDoor
namespace Go.Proofs.YtobabnpllokkaaaGreatDoor
open Go.RowKit
theorem sl_rowR {α:Type} {sz M:Nat} {R:World→List Value→α→Prop} {w:World} {A:Option Addr} {n cap:Nat} {xs:List α} (h:SlRep sz M R w (.slice A n cap) xs) {k:Nat} (hk:k < xs.length) :
    ∃ b off cs,A = some ⟨b,off,none⟩∧R w cs xs[k]∧cs.length = sz∧∀ j v,cs[j]? = some v→w.cell? ⟨b,off + k * sz + j,none⟩ = some v:=by
 obtain ⟨A1,cap1,hv,_,_,h3⟩:=h
 obtain ⟨b,off,cs,hA,hl,hc,hr⟩:=h3 k _ (List.getElem?_eq_getElem hk)
 injection hv with hv _ _
 exact ⟨b,off,cs,hv.trans hA,hr,hl,fun j v hj => by rw [Nat.add_assoc];exact hc j v hj⟩
theorem infoTm4':(Tryz.prog.info? 115).map (·.size) = some 4:=by kernel_rfl
theorem arity_one {op:Int} (h:op = 1∨(8 ≤ op∧op ≤ 10)):arityE op = 1:=by
 unfold arityE;rw [if_pos (by omega)]
theorem arity_two {op:Int} (h:¬ (op = 1∨(8 ≤ op∧op ≤ 10))) (h2:2 ≤ op∧op ≤ 7):arityE op = 2:=by
 unfold arityE;rw [if_neg (by omega),if_pos (by omega)]
theorem arity_none {op:Int} (h:¬ (op = 1∨(8 ≤ op∧op ≤ 10))) (h2:¬ (2 ≤ op∧op ≤ 7)):arityE op = -1:=by
 unfold arityE;rw [if_neg (by omega),if_neg (by omega)]
set_option maxHeartbeats 1600000 in
theorem rkids_any (op:Int) (w:World):Calls Tryz.prog 361 #[.int .i8 op] w fun e w' => e = .returned (.int .i64 (arityE op))∧Fut w w':=by
 by_cases h1:op = 1
 ·rw [arity_one (.inl h1)]
  subst h1
  go_enter Tryz.func361,Tryz.ntmps361
  go_wp2
  go_ret
  exact ⟨rfl,Fut.refl _⟩
 ·have b1:(op == 1) = false:=by rw [beq_eq_false_iff_ne];exact h1
  by_cases h2:8 ≤ op∧op ≤ 10
  ·rw [arity_one (.inr h2)]
   obtain ⟨h3,h4⟩:=h2
   have h3':op ≥ 8:=h3
   go_enter Tryz.func361,Tryz.ntmps361
   go_wp2
   go_ret
   exact ⟨rfl,Fut.refl _⟩
  ·by_cases h5:2 ≤ op∧op ≤ 7
   ·rw [arity_two (by omega) h5]
    obtain ⟨h6,h7⟩:=h5
    have h6':op ≥ 2:=h6
    have h8:¬ 8 ≤ op:=by omega
    have h8':¬ op ≥ 8:=by omega
    go_enter Tryz.func361,Tryz.ntmps361
    go_wp2
    go_ret
    exact ⟨rfl,Fut.refl _⟩
   ·rw [arity_none (by omega) h5]
    by_cases h8:8 ≤ op
    ·have h8':op ≥ 8:=h8
     have h9:¬ op ≤ 10:=by omega
     have h10:2 ≤ op:=by omega
     have h11:¬ op ≤ 7:=by omega
     go_enter Tryz.func361,Tryz.ntmps361
     go_wp2
     go_ret
     exact ⟨rfl,Fut.refl _⟩
    ·have h8':¬ op ≥ 8:=h8
     have h10:¬ 2 ≤ op:=by omega
     go_enter Tryz.func361,Tryz.ntmps361
     go_wp2
     go_ret
     exact ⟨rfl,Fut.refl _⟩
set_option maxHeartbeats 1600000 in
theorem rnothing_any (x:Ex) (A:Option Addr) (c:Nat) (w:World):Calls Tryz.prog 349 #[.agg (x.cs (.slice A x.kids.length c)).toArray] w fun e w' => e = .returned (.bool x.empty)∧Fut w w':=by
 obtain ⟨b,hb⟩:∃ b,x.empty = b:=⟨_,rfl⟩
 rw [hb]
 obtain ⟨op,⟨v,⟨k,n,s⟩⟩,ks⟩:=x
 replace hb:(decide (op = 0) && (decide (v.toList = []) && decide (k = 0) && decide (n = 0) && decide (s.toList = [])) && decide (ks.length = 0)) = b:=hb
 show Calls _ _ #[.agg #[.int .i8 op,.string v,.int .i8 k,.int .i64 n,.string s,.slice A ks.length c]] w _
 generalize ks.length = l at *
 by_cases h0:op = 0
 ·subst h0
  by_cases hz:v.toList = []∧k = 0∧n = 0∧s.toList = []
  ·obtain ⟨hv,rfl,rfl,hs⟩:=hz
   go_enter Tryz.func349,Tryz.ntmps349
   go_wp2
   go_ret
   refine ⟨?_,(Fut.alloc _ _).trans (Fut.alloc _ _)⟩
   rw [← hb]
   simp [hv,hs]
   rw [Bool.eq_iff_iff]
   simp
  ·have hbf:b = false:=by
     rw [← hb,Bool.eq_false_iff]
     intro h
     simp at h
     exact hz ⟨h.1.1.1.1,h.1.1.1.2,h.1.1.2,h.1.2⟩
   rw [hbf]
   clear hb hbf
   go_enter Tryz.func349,Tryz.ntmps349
   go_wp2
   all_goals first
    | (exfalso;apply hz;refine ⟨?_,?_,?_,?_⟩ <;> first | rfl | assumption)
    | (go_ret;exact ⟨rfl,(Fut.alloc _ _).trans (Fut.alloc _ _)⟩)
 ·have hbf:b = false:=by rw [← hb,decide_eq_false h0];rfl
  have h0b:(op == 0) = false:=by rw [beq_eq_false_iff_ne];exact h0
  rw [hbf]
  clear hb hbf
  go_enter Tryz.func349,Tryz.ntmps349
  go_wp2
  go_ret
  exact ⟨rfl,(Fut.alloc _ _).trans (Fut.alloc _ _)⟩
set_option maxHeartbeats 1600000 in
set_option maxRecDepth 100000 in
theorem ratom_any {M:Nat} (p:ByteArray) (A:Option Addr) (c:Nat) (xs:List Tm) (w:World) (h:SlRep 4 M RTm w (.slice A xs.length c) xs) (hM:M ≤ 9223372036854775807) (hp:p.size ≤ 140737488351232) :
    Calls Tryz.prog 348 #[.agg #[.string p,.slice A xs.length c]] w fun e w' => e = .returned (.bool (atomG p xs))∧Fut w w':=by
 have HN:=Lib.hid (fun W => rname_any p W hp)
 have hnv:nameV p = nameT p:=by rw [nameV_eq,Bool.and_comm];rfl
 rw [hnv] at HN
 have hxl:xs.length ≤ 9223372036854775807:=by obtain ⟨_,_,hv,h8,h9⟩:=h.form;omega
 have H:=Lib.hid h
 obtain ⟨b,hb⟩:∃ b,atomG p xs = b:=⟨_,rfl⟩
 rw [hb]
 unfold atomG at hb
 have hbx:=heap_alloc_new w (.cells #[.string p,.slice A xs.length c] 108)
 have f0:=Fut.alloc w (.cells #[.string p,.slice A xs.length c] 108)
 have F0:=Lib.hid f0
 have HB:=Lib.hid hbx
 have c1:=Lib.hid (cell_at hbx 1 _ rfl)
 obtain ⟨nb,hnb⟩:∃ q,nameT p = q:=⟨_,rfl⟩
 rw [hnb] at hb HN
 clear h hnv hnb hbx f0
 go_enter Tryz.func348,Tryz.ntmps348
 go_wp2_with fail
 refine (HN.out _).mono ?_
 rintro e w1 ⟨rfl,f1⟩
 have F1:=Lib.hid (F0.out.trans f1)
 have d1:=f1.cell c1.out
 clear f1 HN HB
 cases nb
 ·obtain rfl:false = b:=hb
  go_wp2
  go_ret
  exact ⟨rfl,F1.out⟩
 ·by_cases hl:xs.length ≤ 24
  ·have hlI:¬ ((xs.length:Int) > 24):=by omega
   have hlI2:¬ ((24:Int) < xs.length):=by omega
   have hall:xs.all Tm.good = b:=by rw [← hb,decide_eq_true hl];simp
   have D1:=Lib.hid d1
   have hall':=Lib.hid hall
   clear hb hall
   go_wp2_with fail
   go_loopw [3] (fun i wr => ∃ k:Nat,k ≤ xs.length∧i = .int .i64 k∧Hid (∀ x ∈ xs.take k,x.good = true)∧Hid (Fut w1 wr)) (fun i _ => xs.length - (intOf i).toNat)
   case atStart => exact ⟨0,Nat.zero_le _,rfl,Lib.hid (fun x hx => by simp at hx),Lib.hid (Fut.refl _)⟩
   case round =>
    obtain ⟨k,hk,rfl,hI,hF⟩:=hrel
    have g1:=hF.out.cell D1.out
    by_cases hlt:k < xs.length
    ·have hltI:(k:Int) < xs.length:=by omega
     have e0:(0:Int) ≤ k∧(k:Int) < xs.length:=by omega
     obtain ⟨b',off,cs,rfl,hr,_,hcs⟩:=sl_rowR (H.out.fut RTm.stays (F1.out.trans hF.out)) hlt
     obtain ⟨rfl,hok⟩:=hr
     have htk:=Lib.hid (List.take_succ_eq_append_getElem hlt)
     have hmem:=Lib.hid (List.getElem_mem hlt)
     generalize xs[k] = z at *
     have HT:=Lib.hid (rterm_any z wr hok)
     have hcs9:=Lib.hid hcs
     have hi4:=infoTm4'
     clear hcs hok
     go_wp2_with (first | (show wpList _ _ _ (Oper.mk _ (Op.load 115 _) _ _ _ _ :: _) _ _;refine Go.wpList_load_mid rfl _ _ rfl b' (off + k * 4) rfl z.cells _ hcs9.out Tryz.underlying115 rfl hi4 ?_))
     refine HT.out.mono ?_
     rintro e w3 ⟨rfl,f3⟩
     have F3:=Lib.hid (hF.out.trans f3)
     clear f3 HT
     cases hg:z.good
     ·have hbf:b = false:=by
        rw [← hall'.out,List.all_eq_false]
        exact ⟨z,hmem.out,by rw [hg];decide⟩
      subst hbf
      go_wp2
      go_ret
      exact ⟨rfl,F1.out.trans F3.out⟩
     ·have HI:=Lib.hid (show ∀ x ∈ xs.take (k + 1),x.good = true from fun x hx => by
        rw [htk.out,List.mem_append] at hx
        rcases hx with hx | hx
        ·exact hI.out x hx
        ·rw [List.mem_singleton] at hx;rw [hx];exact hg)
      go_wp2
      go_roundw
      case rel => exact ⟨k + 1,by omega,by go_num,HI,F3⟩
      case measure => simp [intOf] <;> omega
    ·obtain rfl:k = xs.length:=by omega
     have hbt:b = true:=by
      rw [← hall'.out,List.all_eq_true]
      intro x hx
      exact hI.out x (by rw [List.take_length];exact hx)
     subst hbt
     go_wp2
     go_ret
     exact ⟨rfl,F1.out.trans hF.out⟩
  ·have hlI:(xs.length:Int) > 24:=by omega
   have hlI2:(24:Int) < xs.length:=by omega
   obtain rfl:b = false:=by rw [← hb,decide_eq_false hl];rfl
   go_wp2
   go_ret
   exact ⟨rfl,F1.out⟩
theorem infoEx6':(Tryz.prog.info? 118).map (·.size) = some 6:=by kernel_rfl
theorem empty_of {s:ByteArray} (h:s.toList = []):s = ⟨#[]⟩:=by
 rw [ByteArray.toList_eq] at h
 exact ByteArray.ext (Array.toList_inj.1 (by simpa using h))
def RexOk (n:Nat):Prop:=∀ (x:Ex) (cs:List Value) (m:Nat) (W:World),RE m W cs x→Calls Tryz.prog 350 #[.agg cs.toArray,.int .i64 n] W fun e W' => e = .returned (.bool (deepE n x))∧Fut W W'
set_option maxHeartbeats 4000000 in
set_option maxRecDepth 100000 in
theorem rexpr_any:∀ n,n < 1000→RexOk n
 | 0,_ => fun x cs m w h => by
  obtain ⟨m',op,⟨v,⟨k,n,s⟩⟩,ks,A,c,rfl,rfl,rfl,_,_,_⟩:=ex_form h
  dsimp only
  generalize ks.length = l at *
  go_enter Tryz.func350,Tryz.ntmps350
  go_wp2
  go_ret
  exact ⟨rfl,Fut.alloc _ _⟩
 | d + 1,hd => fun x cs m w h => by
  have IH:=Lib.hid (rexpr_any d (by omega))
  obtain ⟨m',op,⟨v,⟨k,n,s⟩⟩,ks,A,c,rfl,rfl,rfl,hc1,hc2,hks⟩:=ex_form h
  obtain ⟨kvx,hkx,_,hok,hkk⟩:=h
  clear hkx hkk
  dsimp only at *
  obtain ⟨b,hb⟩:∃ b,deepE (d + 1) (Ex.mk op ⟨v,⟨k,n,s⟩⟩ ks) = b:=⟨_,rfl⟩
  rw [hb]
  replace hb:(if op = 0 then decide (ks.length = 0) && Tm.solid ⟨v,⟨k,n,s⟩⟩ else Tm.zero ⟨v,⟨k,n,s⟩⟩ && decide ((ks.length:Int) = arityE op) && ks.all (deepE d)) = b:=hb
  have hbx:=heap_alloc_new w (.cells #[.int .i8 op,.string v,.int .i8 k,.int .i64 n,.string s,.slice A ks.length c] 118)
  have f0:=Fut.alloc w (.cells #[.int .i8 op,.string v,.int .i8 k,.int .i64 n,.string s,.slice A ks.length c] 118)
  have HK:=Lib.hid hks
  have HT:=Lib.hid (fun W => rterm_any ⟨v,⟨k,n,s⟩⟩ W hok)
  obtain ⟨D,hD⟩:∃ D:Int,((d + 1:Nat):Int) = D:=⟨_,rfl⟩
  rw [hD]
  have hdI:¬ (D = 0):=by omega
  have hdb:(D == 0) = false:=by rw [beq_eq_false_iff_ne];exact hdI
  have hD1:D - 1 = (d:Int):=by omega
  replace hD:=Lib.hid hD
  have hxl:ks.length ≤ 9223372036854775807:=by omega
  clear hks hok hc1 hc2
  by_cases h0:op = 0
  ·subst h0
   rw [if_pos rfl] at hb
   have x1:=cell_at hbx 1 _ rfl
   have x2:=cell_at hbx 2 _ rfl
   have x3:=cell_at hbx 3 _ rfl
   have x4:=cell_at hbx 4 _ rfl
   have x5:=cell_at hbx 5 _ rfl
   clear hbx HK IH
   by_cases hl:ks.length = 0
   ·have hlb:((ks.length:Int) == 0) = true:=by rw [hl];rfl
    by_cases hu:v.toList = [95]
    ·obtain rfl:b = false:=by rw [← hb];simp [Tm.solid,hu]
     have hub:(v.toList == [95]) = true:=by rw [hu];rfl
     have hub2:(v.toList != [95]) = false:=by simp [bne,hub]
     rw [hl] at *
     go_enter Tryz.func350,Tryz.ntmps350
     go_wp2
     go_ret
     exact ⟨rfl,Fut.alloc _ _⟩
    ·have hub:(v.toList == [95]) = false:=by rw [beq_eq_false_iff_ne];exact hu
     have hub2:(v.toList != [95]) = true:=by simp [bne,hub]
     have hbg:Tm.good ⟨v,⟨k,n,s⟩⟩ = b:=by rw [← hb];simp [Tm.solid,hu,hl]
     rw [hbg] at HT
     rw [hl] at *
     clear hb hbg
     go_enter Tryz.func350,Tryz.ntmps350
     go_wp2_with fail
     refine (HT.out _).mono ?_
     rintro e w1 ⟨rfl,f1⟩
     have F1:=(Fut.alloc _ _).trans f1
     clear f1 x1 x2 x3 x4 x5
     go_wp2
     go_ret
     exact ⟨rfl,F1⟩
   ·have hlb:((ks.length:Int) == 0) = false:=by rw [beq_eq_false_iff_ne];omega
    have hlb2:(ks.length == 0) = false:=by rw [beq_eq_false_iff_ne];exact hl
    obtain rfl:b = false:=by rw [← hb];simp [hl]
    clear hb
    generalize ks.length = l at *
    go_enter Tryz.func350,Tryz.ntmps350
    go_wp2
    go_ret
    exact ⟨rfl,Fut.alloc _ _⟩
  ·have h0b:(op == 0) = false:=by rw [beq_eq_false_iff_ne];exact h0
   rw [if_neg h0] at hb
   have hs1:(w.alloc (.cells #[.int .i8 op,.string v,.int .i8 k,.int .i64 n,.string s,.slice A ks.length c] 118)).heap.size = w.heap.size + 1:=by simp
   have f1:=Fut.alloc (w.alloc (.cells #[.int .i8 op,.string v,.int .i8 k,.int .i64 n,.string s,.slice A ks.length c] 118)) (.cells #[.string ⟨#[]⟩,.int .i8 0,.int .i64 0,.string ⟨#[]⟩] 115)
   have hbz:=heap_alloc_new (w.alloc (.cells #[.int .i8 op,.string v,.int .i8 k,.int .i64 n,.string s,.slice A ks.length c] 118)) (.cells #[.string ⟨#[]⟩,.int .i8 0,.int .i64 0,.string ⟨#[]⟩] 115)
   rw [hs1] at hbz
   have hb1:=f1.block hbx
   have F01:=Lib.hid (f0.trans f1)
   have x0:=cell_at hb1 0 _ rfl
   have x1:=cell_at hb1 1 _ rfl
   have x2:=cell_at hb1 2 _ rfl
   have x3:=cell_at hb1 3 _ rfl
   have x4:=cell_at hb1 4 _ rfl
   have x5:=cell_at hb1 5 _ rfl
   have z0:=cell_at hbz 0 _ rfl
   have z1:=cell_at hbz 1 _ rfl
   have z2:=cell_at hbz 2 _ rfl
   have z3:=cell_at hbz 3 _ rfl
   clear hbx f0 f1 hb1 hbz hs1 HT
   by_cases hz:v.toList = []∧k = 0∧n = 0∧s.toList = []
   ·obtain ⟨c1,rfl,rfl,c4⟩:=hz
    obtain rfl:=empty_of c1
    obtain rfl:=empty_of c4
    have hb2:(decide ((ks.length:Int) = arityE op) && ks.all (deepE d)) = b:=by rw [← hb];simp [Tm.zero,c1]
    have HKd:=Lib.hid (fun W => rkids_any op W)
    have HX5:=Lib.hid x5
    have hdw2:wrap64 (D - 1) = (d:Int):=by rw [hD1];unfold wrap64;omega
    have hdw3:wrap64 (d:Int) = (d:Int):=by unfold wrap64;omega
    obtain ⟨ar,har⟩:∃ ar,arityE op = ar:=⟨_,rfl⟩
    rw [har] at hb2 HKd
    clear hb har c1 c4
    by_cases hl:(ks.length:Int) = ar
    ·subst hl
     have hall:ks.all (deepE d) = b:=by rw [← hb2];simp
     have hall':=Lib.hid hall
     clear hb2 hall
     go_enter Tryz.func350,Tryz.ntmps350
     go_wp2
     refine wp_graph 13 [.d,.d,.d,.d,.d,.d,.d,.d,.d,.d,.d,.d,.d] (by kernel_rfl) (by kernel_rfl) (by kernel_rfl) ?_
     simp only [takS,Exs]
     iterate 13 apply Exists.intro
     apply Run.valG (wanted_none rfl _)
     ·intro w1 h1 hk
      go_simp;rfl
     simp only [actS]
     iterate 2
      apply Run.valG (wanted_none rfl _)
      ·intro w1 h1 hk
       have r0:=h1.cell x0;have r1:=h1.cell x1;have r2:=h1.cell x2;have r3:=h1.cell x3;have r4:=h1.cell x4;have r5:=h1.cell x5;have p0:=h1.cell z0;have p1:=h1.cell z1;have p2:=h1.cell z2;have p3:=h1.cell z3
       have hcw:=fun b o => Below.cell (p:=⟨b,o,none⟩) h1
       go_simp;rfl
      simp only [actS]
     iterate 2
      apply Run.valG (wanted_none rfl _)
      ·intro w1 h1 hk
       go_simp;rfl
      simp only [actS]
     apply Run.valG (by go_simp)
     ·intro w1 h1 hk
      go_simp;rfl
     simp only [actS]
     iterate 2
      apply Run.valG (by go_simp)
      ·intro w1 h1 hk
       have r0:=h1.cell x0;have r1:=h1.cell x1;have r2:=h1.cell x2;have r3:=h1.cell x3;have r4:=h1.cell x4;have r5:=h1.cell x5;have p0:=h1.cell z0;have p1:=h1.cell z1;have p2:=h1.cell z2;have p3:=h1.cell z3
       have hcw:=fun b o => Below.cell (p:=⟨b,o,none⟩) h1
       go_simp;rfl
      simp only [actS]
     apply Run.valG (by go_simp)
     ·intro w1 h1 hk
      go_simp;rfl
     simp only [actS]
     apply Run.valG (by go_simp)
     ·intro w1 h1 hk
      have r0:=h1.cell x0;have r1:=h1.cell x1;have r2:=h1.cell x2;have r3:=h1.cell x3;have r4:=h1.cell x4;have r5:=h1.cell x5;have p0:=h1.cell z0;have p1:=h1.cell z1;have p2:=h1.cell z2;have p3:=h1.cell z3
      have hcw:=fun b o => Below.cell (p:=⟨b,o,none⟩) h1
      go_simp;rfl
     simp only [actS]
     apply Run.call (by go_simp) (fun _ _ => by go_simp;exact ⟨rfl,rfl⟩)
     ·intro w1 h1 hk
      have r0:=h1.cell x0;have r1:=h1.cell x1;have r2:=h1.cell x2;have r3:=h1.cell x3;have r4:=h1.cell x4;have r5:=h1.cell x5;have p0:=h1.cell z0;have p1:=h1.cell z1;have p2:=h1.cell z2;have p3:=h1.cell z3
      exact HKd.out _
     simp only [actS]
     apply Run.valG (by go_simp)
     ·intro w1 h1 hk
      go_simp;rfl
     simp only [actS]
     apply Run.valG (wanted_none rfl _)
     ·intro w1 h1 hk
      go_simp;rfl
     simp only [actS]
     apply Run.done
     intro w2 h2 hk
     clear hk
     have F2:=Lib.hid (F01.out.trans ((Fut.drew _).trans h2))
     have y5:=Lib.hid (h2.cell x5)
     clear h2 x0 x1 x2 x3 x4 x5 z0 z1 z2 z3 HX5 F01
     go_wp2
     go_loopw [6] (fun i wr => ∃ q:Nat,q ≤ ks.length∧i = .int .i64 q∧Hid (∀ x ∈ ks.take q,deepE d x = true)∧Hid (Fut w2 wr)) (fun i _ => ks.length - (intOf i).toNat)
     case atStart => exact ⟨0,Nat.zero_le _,rfl,Lib.hid (fun x hx => by simp at hx),Lib.hid (Fut.refl _)⟩
     case round =>
      obtain ⟨q,hq,rfl,hI,hF⟩:=hrel
      have g5:=hF.out.cell y5.out
      by_cases hlt:q < ks.length
      ·have hltI:(q:Int) < ks.length:=by omega
       have e0:(0:Int) ≤ q∧(q:Int) < ks.length:=by omega
       obtain ⟨b',off,cs,rfl,hr,hl6,hcs⟩:=sl_rowR (HK.out.fut (RE.stays m') (F2.out.trans hF.out)) hlt
       have htk:=Lib.hid (List.take_succ_eq_append_getElem hlt)
       have hmem:=Lib.hid (List.getElem_mem hlt)
       generalize ks[q] = z at *
       have HC:=Lib.hid (IH.out z cs m' wr hr)
       have hcs9:=Lib.hid hcs
       have hi6:(Tryz.prog.info? 118).map (·.size) = some cs.length:=by rw [hl6];exact infoEx6'
       clear hcs hr
       go_wp2_with (first | (show wpList _ _ _ (Oper.mk _ (Op.load 118 _) _ _ _ _ :: _) _ _;refine Go.wpList_load_mid rfl _ _ rfl b' (off + q * 6) rfl cs _ hcs9.out Tryz.underlying118 rfl hi6 ?_))
       refine HC.out.mono ?_
       rintro e w3 ⟨rfl,f3⟩
       have F3:=Lib.hid (hF.out.trans f3)
       clear f3 HC
       cases hg:deepE d z
       ·have hbf:b = false:=by
          rw [← hall'.out,List.all_eq_false]
          exact ⟨z,hmem.out,by rw [hg];decide⟩
        subst hbf
        go_wp2
        go_ret
        exact ⟨rfl,F2.out.trans F3.out⟩
       ·have HI:=Lib.hid (show ∀ x ∈ ks.take (q + 1),deepE d x = true from fun x hx => by
          rw [htk.out,List.mem_append] at hx
          rcases hx with hx | hx
          ·exact hI.out x hx
          ·rw [List.mem_singleton] at hx;rw [hx];exact hg)
        go_wp2
        go_roundw
        case rel => exact ⟨q + 1,by omega,by go_num,HI,F3⟩
        case measure => simp [intOf] <;> omega
      ·obtain rfl:q = ks.length:=by omega
       have hbt:b = true:=by
        rw [← hall'.out,List.all_eq_true]
        intro x hx
        exact hI.out x (by rw [List.take_length];exact hx)
       subst hbt
       go_wp2
       go_ret
       exact ⟨rfl,F2.out.trans hF.out⟩
    ·obtain rfl:b = false:=by rw [← hb2,decide_eq_false hl];rfl
     have hlb:((ks.length:Int) == ar) = false:=by rw [beq_eq_false_iff_ne];exact hl
     have hlb2:((ks.length:Int) != ar) = true:=by simp [bne,hlb]
     clear hb2 HK IH
     generalize ks.length = l at *
     go_enter Tryz.func350,Tryz.ntmps350
     go_wp2
     refine wp_graph 13 [.d,.d,.d,.d,.d,.d,.d,.d,.d,.d,.d,.d,.d] (by kernel_rfl) (by kernel_rfl) (by kernel_rfl) ?_
     simp only [takS,Exs]
     iterate 13 apply Exists.intro
     apply Run.valG (wanted_none rfl _)
     ·intro w1 h1 hk
      go_simp;rfl
     simp only [actS]
     iterate 2
      apply Run.valG (wanted_none rfl _)
      ·intro w1 h1 hk
       have r0:=h1.cell x0;have r1:=h1.cell x1;have r2:=h1.cell x2;have r3:=h1.cell x3;have r4:=h1.cell x4;have r5:=h1.cell x5;have p0:=h1.cell z0;have p1:=h1.cell z1;have p2:=h1.cell z2;have p3:=h1.cell z3
       have hcw:=fun b o => Below.cell (p:=⟨b,o,none⟩) h1
       go_simp;rfl
      simp only [actS]
     iterate 2
      apply Run.valG (wanted_none rfl _)
      ·intro w1 h1 hk
       go_simp;rfl
      simp only [actS]
     apply Run.valG (by go_simp)
     ·intro w1 h1 hk
      go_simp;rfl
     simp only [actS]
     iterate 2
      apply Run.valG (by go_simp)
      ·intro w1 h1 hk
       have r0:=h1.cell x0;have r1:=h1.cell x1;have r2:=h1.cell x2;have r3:=h1.cell x3;have r4:=h1.cell x4;have r5:=h1.cell x5;have p0:=h1.cell z0;have p1:=h1.cell z1;have p2:=h1.cell z2;have p3:=h1.cell z3
       have hcw:=fun b o => Below.cell (p:=⟨b,o,none⟩) h1
       go_simp;rfl
      simp only [actS]
     apply Run.valG (by go_simp)
     ·intro w1 h1 hk
      go_simp;rfl
     simp only [actS]
     apply Run.valG (by go_simp)
     ·intro w1 h1 hk
      have r0:=h1.cell x0;have r1:=h1.cell x1;have r2:=h1.cell x2;have r3:=h1.cell x3;have r4:=h1.cell x4;have r5:=h1.cell x5;have p0:=h1.cell z0;have p1:=h1.cell z1;have p2:=h1.cell z2;have p3:=h1.cell z3
      have hcw:=fun b o => Below.cell (p:=⟨b,o,none⟩) h1
      go_simp;rfl
     simp only [actS]
     apply Run.call (by go_simp) (fun _ _ => by go_simp;exact ⟨rfl,rfl⟩)
     ·intro w1 h1 hk
      have r0:=h1.cell x0;have r1:=h1.cell x1;have r2:=h1.cell x2;have r3:=h1.cell x3;have r4:=h1.cell x4;have r5:=h1.cell x5;have p0:=h1.cell z0;have p1:=h1.cell z1;have p2:=h1.cell z2;have p3:=h1.cell z3
      exact HKd.out _
     simp only [actS]
     apply Run.valG (by go_simp)
     ·intro w1 h1 hk
      go_simp;rfl
     simp only [actS]
     apply Run.valG (wanted_none rfl _)
     ·intro w1 h1 hk
      go_simp;rfl
     simp only [actS]
     apply Run.done
     intro w2 h2 hk
     clear hk
     have F9:=F01.out.trans ((Fut.drew _).trans h2)
     clear h2
     go_wp2
     go_ret
     exact ⟨rfl,F9⟩
   ·obtain rfl:b = false:=by
      rw [← hb,Bool.eq_false_iff]
      intro h
      simp [Tm.zero] at h
      exact hz ⟨h.1.1.1.1.1,h.1.1.1.1.2,h.1.1.1.2,h.1.1.2⟩
    clear hb HK IH
    generalize ks.length = l at *
    by_cases c1:v.toList = []
    ·by_cases c2:k = 0
     ·by_cases c3:n = 0
      ·have c4:¬ s.toList = []:=fun c4 => hz ⟨c1,c2,c3,c4⟩
       obtain rfl:=empty_of c1
       subst c2;subst c3
       have q1:(s.toList == []) = false:=by rw [beq_eq_false_iff_ne];exact c4
       clear hz
       go_enter Tryz.func350,Tryz.ntmps350
       go_wp2
       refine wp_graph 13 [.d,.d,.d,.d,.d,.d,.d,.d,.d,.d,.d,.d,.d] (by kernel_rfl) (by kernel_rfl) (by kernel_rfl) ?_
       simp only [takS,Exs]
       iterate 13 apply Exists.intro
       apply Run.valG (wanted_none rfl _)
       ·intro w1 h1 hk
        go_simp;rfl
       simp only [actS]
       iterate 2
        apply Run.valG (wanted_none rfl _)
        ·intro w1 h1 hk
         have r0:=h1.cell x0;have r1:=h1.cell x1;have r2:=h1.cell x2;have r3:=h1.cell x3;have r4:=h1.cell x4;have p0:=h1.cell z0;have p1:=h1.cell z1;have p2:=h1.cell z2;have p3:=h1.cell z3
         have hcw:=fun b o => Below.cell (p:=⟨b,o,none⟩) h1
         go_simp;rfl
        simp only [actS]
       iterate 2
        apply Run.valG (wanted_none rfl _)
        ·intro w1 h1 hk
         go_simp;rfl
        simp only [actS]
       iterate 7
        apply Run.skip (by first | (go_simp;done) | (go_simp;exact fun h => nomatch h))
        simp only [actS]
       apply Run.valG (wanted_none rfl _)
       ·intro w1 h1 hk
        go_simp;rfl
       simp only [actS]
       apply Run.done
       intro w2 h2 hk
       clear hk
       have F9:=F01.out.trans ((Fut.drew _).trans h2)
       clear h2
       go_wp2
       go_ret
       exact ⟨rfl,F9⟩
      ·obtain rfl:=empty_of c1
       subst c2
       have q1:(n == 0) = false:=by rw [beq_eq_false_iff_ne];exact c3
       clear hz
       go_enter Tryz.func350,Tryz.ntmps350
       go_wp2
       refine wp_graph 13 [.d,.d,.d,.d,.d,.d,.d,.d,.d,.d,.d,.d,.d] (by kernel_rfl) (by kernel_rfl) (by kernel_rfl) ?_
       simp only [takS,Exs]
       iterate 13 apply Exists.intro
       apply Run.valG (wanted_none rfl _)
       ·intro w1 h1 hk
        go_simp;rfl
       simp only [actS]
       iterate 2
        apply Run.valG (wanted_none rfl _)
        ·intro w1 h1 hk
         have r0:=h1.cell x0;have r1:=h1.cell x1;have r2:=h1.cell x2;have r3:=h1.cell x3;have r4:=h1.cell x4;have p0:=h1.cell z0;have p1:=h1.cell z1;have p2:=h1.cell z2;have p3:=h1.cell z3
         have hcw:=fun b o => Below.cell (p:=⟨b,o,none⟩) h1
         go_simp;rfl
        simp only [actS]
       iterate 2
        apply Run.valG (wanted_none rfl _)
        ·intro w1 h1 hk
         go_simp;rfl
        simp only [actS]
       iterate 7
        apply Run.skip (by first | (go_simp;done) | (go_simp;exact fun h => nomatch h))
        simp only [actS]
       apply Run.valG (wanted_none rfl _)
       ·intro w1 h1 hk
        go_simp;rfl
       simp only [actS]
       apply Run.done
       intro w2 h2 hk
       clear hk
       have F9:=F01.out.trans ((Fut.drew _).trans h2)
       clear h2
       go_wp2
       go_ret
       exact ⟨rfl,F9⟩
     ·obtain rfl:=empty_of c1
      have q1:(k == 0) = false:=by rw [beq_eq_false_iff_ne];exact c2
      clear hz
      go_enter Tryz.func350,Tryz.ntmps350
      go_wp2
      refine wp_graph 13 [.d,.d,.d,.d,.d,.d,.d,.d,.d,.d,.d,.d,.d] (by kernel_rfl) (by kernel_rfl) (by kernel_rfl) ?_
      simp only [takS,Exs]
      iterate 13 apply Exists.intro
      apply Run.valG (wanted_none rfl _)
      ·intro w1 h1 hk
       go_simp;rfl
      simp only [actS]
      iterate 2
       apply Run.valG (wanted_none rfl _)
       ·intro w1 h1 hk
        have r0:=h1.cell x0;have r1:=h1.cell x1;have r2:=h1.cell x2;have r3:=h1.cell x3;have r4:=h1.cell x4;have p0:=h1.cell z0;have p1:=h1.cell z1;have p2:=h1.cell z2;have p3:=h1.cell z3
        have hcw:=fun b o => Below.cell (p:=⟨b,o,none⟩) h1
        go_simp;rfl
       simp only [actS]
      iterate 2
       apply Run.valG (wanted_none rfl _)
       ·intro w1 h1 hk
        go_simp;rfl
       simp only [actS]
      iterate 7
       apply Run.skip (by first | (go_simp;done) | (go_simp;exact fun h => nomatch h))
       simp only [actS]
      apply Run.valG (wanted_none rfl _)
      ·intro w1 h1 hk
       go_simp;rfl
      simp only [actS]
      apply Run.done
      intro w2 h2 hk
      clear hk
      have F9:=F01.out.trans ((Fut.drew _).trans h2)
      clear h2
      go_wp2
      go_ret
      exact ⟨rfl,F9⟩
    ·have q1:(v.toList == []) = false:=by rw [beq_eq_false_iff_ne];exact c1
     clear hz
     go_enter Tryz.func350,Tryz.ntmps350
     go_wp2
     refine wp_graph 13 [.d,.d,.d,.d,.d,.d,.d,.d,.d,.d,.d,.d,.d] (by kernel_rfl) (by kernel_rfl) (by kernel_rfl) ?_
     simp only [takS,Exs]
     iterate 13 apply Exists.intro
     apply Run.valG (wanted_none rfl _)
     ·intro w1 h1 hk
      go_simp;rfl
     simp only [actS]
     iterate 2
      apply Run.valG (wanted_none rfl _)
      ·intro w1 h1 hk
       have r0:=h1.cell x0;have r1:=h1.cell x1;have r2:=h1.cell x2;have r3:=h1.cell x3;have r4:=h1.cell x4;have p0:=h1.cell z0;have p1:=h1.cell z1;have p2:=h1.cell z2;have p3:=h1.cell z3
       have hcw:=fun b o => Below.cell (p:=⟨b,o,none⟩) h1
       go_simp;rfl
      simp only [actS]
     iterate 2
      apply Run.valG (wanted_none rfl _)
      ·intro w1 h1 hk
       go_simp;rfl
      simp only [actS]
     iterate 7
      apply Run.skip (by first | (go_simp;done) | (go_simp;exact fun h => nomatch h))
      simp only [actS]
     apply Run.valG (wanted_none rfl _)
     ·intro w1 h1 hk
      go_simp;rfl
     simp only [actS]
     apply Run.done
     intro w2 h2 hk
     clear hk
     have F9:=F01.out.trans ((Fut.drew _).trans h2)
     clear h2
     go_wp2
     go_ret
     exact ⟨rfl,F9⟩
set_option maxHeartbeats 2000000 in
set_option maxRecDepth 100000 in
theorem rargument_any (a:Ar) (w:World) (ht:a.t.ok):Calls Tryz.prog 324 #[.agg #[.int .i8 a.g,.string a.t.v,.int .i8 a.t.x.k,.int .i64 a.t.x.n,.string a.t.x.s]] w fun e w' => e = .returned (.bool a.good)∧Fut w w':=by
 have HT:=Lib.hid (fun W => rterm_any a.t W ht)
 obtain ⟨b,hb⟩:∃ b,a.good = b:=⟨_,rfl⟩
 rw [hb]
 obtain ⟨g,⟨v,⟨k,n,s⟩⟩⟩:=a
 replace hb:(if g = 0 then Tm.solid ⟨v,⟨k,n,s⟩⟩ else if g = 1 then Tm.zero ⟨v,⟨k,n,s⟩⟩ else if g = 2∨g = 3∨g = 4 then !decide (v.toList = []) && Tm.solid ⟨v,⟨k,n,s⟩⟩ else false) = b:=hb
 dsimp only at *
 clear ht
 have F01:=Lib.hid ((Fut.alloc w (.cells #[.int .i8 g,.string v,.int .i8 k,.int .i64 n,.string s] 190)).trans (Fut.alloc _ (.cells #[.string ⟨#[]⟩,.int .i8 0,.int .i64 0,.string ⟨#[]⟩] 115)))
 by_cases h0:g = 0
 ·subst h0
  rw [if_pos rfl] at hb
  by_cases hu:v.toList = [95]
  ·obtain rfl:b = false:=by rw [← hb];simp [Tm.solid,hu]
   have hub:(v.toList == [95]) = true:=by rw [hu];rfl
   have hub2:(v.toList != [95]) = false:=by simp [bne,hub]
   go_enter Tryz.func324,Tryz.ntmps324
   go_wp2
   go_ret
   exact ⟨rfl,F01.out⟩
  ·have hub:(v.toList == [95]) = false:=by rw [beq_eq_false_iff_ne];exact hu
   have hub2:(v.toList != [95]) = true:=by simp [bne,hub]
   have hbg:Tm.good ⟨v,⟨k,n,s⟩⟩ = b:=by rw [← hb];simp [Tm.solid,hu]
   rw [hbg] at HT
   clear hb hbg
   go_enter Tryz.func324,Tryz.ntmps324
   go_wp2_with fail
   refine (HT.out _).mono ?_
   rintro e w1 ⟨rfl,f1⟩
   have F1:=F01.out.trans f1
   clear f1
   go_wp2
   go_ret
   exact ⟨rfl,F1⟩
 ·have h0b:(g == 0) = false:=by rw [beq_eq_false_iff_ne];exact h0
  rw [if_neg h0] at hb
  by_cases h1:g = 1
  ·subst h1
   rw [if_pos rfl] at hb
   by_cases hz:v.toList = []∧k = 0∧n = 0∧s.toList = []
   ·obtain ⟨hv,rfl,rfl,hs⟩:=hz
    obtain rfl:b = true:=by rw [← hb];simp [Tm.zero,hv,hs]
    go_enter Tryz.func324,Tryz.ntmps324
    go_wp2
    go_ret
    exact ⟨by simp [hv,hs],F01.out⟩
   ·obtain rfl:b = false:=by
      rw [← hb,Bool.eq_false_iff]
      intro h
      simp [Tm.zero] at h
      exact hz ⟨h.1.1.1,h.1.1.2,h.1.2,h.2⟩
    clear hb
    go_enter Tryz.func324,Tryz.ntmps324
    go_wp2
    all_goals first
     | (exfalso;apply hz;refine ⟨?_,?_,?_,?_⟩ <;> first | rfl | assumption)
     | (go_ret;exact ⟨rfl,(Fut.alloc _ _).trans (Fut.alloc _ _)⟩)
  ·have h1b:(g == 1) = false:=by rw [beq_eq_false_iff_ne];exact h1
   rw [if_neg h1] at hb
   by_cases h2:g = 2∨g = 3∨g = 4
   ·rw [if_pos h2] at hb
    rcases h2 with rfl | rfl | rfl
    all_goals by_cases hv:v.toList = []
    all_goals first
     | (obtain rfl:b = false:=(by rw [← hb];simp [hv])
        have hvb:(v.toList == []) = true:=(by rw [hv];rfl)
        have hvb2:(v.toList != []) = false:=(by simp [bne,hvb])
        go_enter Tryz.func324,Tryz.ntmps324
        go_wp2
        go_ret
        exact ⟨rfl,F01.out⟩)
     | (have hvb:(v.toList == []) = false:=(by rw [beq_eq_false_iff_ne];exact hv)
        have hvb2:(v.toList != []) = true:=(by simp [bne,hvb])
        by_cases hu:v.toList = [95]
        ·obtain rfl:b = false:=(by rw [← hb];simp [Tm.solid,hu])
         have hub:(v.toList == [95]) = true:=(by rw [hu];rfl)
         have hub2:(v.toList != [95]) = false:=(by simp [bne,hub])
         go_enter Tryz.func324,Tryz.ntmps324
         go_wp2
         go_ret
         exact ⟨rfl,F01.out⟩
        ·have hub:(v.toList == [95]) = false:=(by rw [beq_eq_false_iff_ne];exact hu)
         have hub2:(v.toList != [95]) = true:=(by simp [bne,hub])
         have hbg:Tm.good ⟨v,⟨k,n,s⟩⟩ = b:=(by rw [← hb];simp [Tm.solid,hu,hv])
         rw [hbg] at HT
         clear hb hbg
         go_enter Tryz.func324,Tryz.ntmps324
         go_wp2_with fail
         refine (HT.out _).mono ?_
         rintro e w1 ⟨rfl,f1⟩
         have F1:=F01.out.trans f1
         clear f1
         go_wp2
         go_ret
         exact ⟨rfl,F1⟩)
   ·rw [if_neg h2] at hb
    subst hb
    have q2:(g == 2) = false:=by rw [beq_eq_false_iff_ne];omega
    have q3:(g == 3) = false:=by rw [beq_eq_false_iff_ne];omega
    have q4:(g == 4) = false:=by rw [beq_eq_false_iff_ne];omega
    go_enter Tryz.func324,Tryz.ntmps324
    go_wp2
    go_ret
    exact ⟨rfl,F01.out⟩
set_option maxHeartbeats 4000000 in
set_option maxRecDepth 100000 in
theorem rliteral_any (x:Lt) (cs:List Value) (w:World) (h:RLt w cs x):Calls Tryz.prog 325 #[.agg cs.toArray] w fun e w' => e = .returned (.bool x.good)∧Fut w w':=by
 obtain ⟨b,hb⟩:∃ b,x.good = b:=⟨_,rfl⟩
 rw [hb]
 obtain ⟨k,p,a,r,l,d⟩:=x
 obtain ⟨av,cl,cd,rfl,_,_,_,_,hp,ha,⟨n1,h1⟩,⟨n2,h2⟩⟩:=h
 dsimp only at *
 obtain ⟨A,c,rfl,_,hcm⟩:=ha.form
 have H1:=h1
 have H2:=h2
 obtain ⟨m1,op1,⟨tv1,⟨xk1,xn1,xs1⟩⟩,ks1,A1,c1,rfl,rfl,rfl,_,_,_⟩:=ex_form h1
 obtain ⟨m2,op2,⟨tv2,⟨xk2,xn2,xs2⟩⟩,ks2,A2,c2,rfl,rfl,rfl,_,_,_⟩:=ex_form h2
 dsimp only at *
 unfold Lt.good at hb
 dsimp only at hb
 show Calls Tryz.prog 325 #[.agg #[.int .i8 k,.string p,.slice A a.length c,.int .i8 r,.int .i8 op1,.string tv1,.int .i8 xk1,.int .i64 xn1,.string xs1,.slice A1 ks1.length c1,.int .i8 op2,.string tv2,.int .i8 xk2,.int .i64 xn2,.string xs2,.slice A2 ks2.length c2]] w _
 have hbx:=heap_alloc_new w (.cells #[.int .i8 k,.string p,.slice A a.length c,.int .i8 r,.int .i8 op1,.string tv1,.int .i8 xk1,.int .i64 xn1,.string xs1,.slice A1 ks1.length c1,.int .i8 op2,.string tv2,.int .i8 xk2,.int .i64 xn2,.string xs2,.slice A2 ks2.length c2] 120)
 have F0:=Lib.hid (Fut.alloc w (.cells #[.int .i8 k,.string p,.slice A a.length c,.int .i8 r,.int .i8 op1,.string tv1,.int .i8 xk1,.int .i64 xn1,.string xs1,.slice A1 ks1.length c1,.int .i8 op2,.string tv2,.int .i8 xk2,.int .i64 xn2,.string xs2,.slice A2 ks2.length c2] 120))
 have HB:=Lib.hid hbx
 have x0:=cell_at hbx 0 _ rfl
 have x1:=cell_at hbx 1 _ rfl
 have x2:=cell_at hbx 2 _ rfl
 have x3:=cell_at hbx 3 _ rfl
 have lA:World.rangeAt _ w.heap.size 1 [.string p,.slice A a.length c]:=range_mid (cs:=[.int .i8 k,.string p,.slice A a.length c,.int .i8 r,.int .i8 op1,.string tv1,.int .i8 xk1,.int .i64 xn1,.string xs1,.slice A1 ks1.length c1,.int .i8 op2,.string tv2,.int .i8 xk2,.int .i64 xn2,.string xs2,.slice A2 ks2.length c2]) hbx 1 2
 have lB:World.rangeAt _ w.heap.size 4 [.int .i8 op1,.string tv1,.int .i8 xk1,.int .i64 xn1,.string xs1,.slice A1 ks1.length c1]:=range_mid (cs:=[.int .i8 k,.string p,.slice A a.length c,.int .i8 r,.int .i8 op1,.string tv1,.int .i8 xk1,.int .i64 xn1,.string xs1,.slice A1 ks1.length c1,.int .i8 op2,.string tv2,.int .i8 xk2,.int .i64 xn2,.string xs2,.slice A2 ks2.length c2]) hbx 4 6
 have HA:=Lib.hid (fun W (hW:Fut w W) => ratom_any p A c a W (ha.fut RTm.stays hW) (by omega) hp)
 have HN1:=Lib.hid (fun W => (show Calls Tryz.prog 349 #[.agg #[.int .i8 op1,.string tv1,.int .i8 xk1,.int .i64 xn1,.string xs1,.slice A1 ks1.length c1]] W _ from rnothing_any (Ex.mk op1 ⟨tv1,⟨xk1,xn1,xs1⟩⟩ ks1) A1 c1 W))
 have HN2:=Lib.hid (fun W => (show Calls Tryz.prog 349 #[.agg #[.int .i8 op2,.string tv2,.int .i8 xk2,.int .i64 xn2,.string xs2,.slice A2 ks2.length c2]] W _ from rnothing_any (Ex.mk op2 ⟨tv2,⟨xk2,xn2,xs2⟩⟩ ks2) A2 c2 W))
 have HX1:=Lib.hid (fun W (hW:Fut w W) => (show Calls Tryz.prog 350 #[.agg #[.int .i8 op1,.string tv1,.int .i8 xk1,.int .i64 xn1,.string xs1,.slice A1 ks1.length c1],.int .i64 8] W _ from rexpr_any 8 (by omega) (Ex.mk op1 ⟨tv1,⟨xk1,xn1,xs1⟩⟩ ks1) _ _ W (RE.stays _ _ _ _ _ hW H1)))
 have HX2:=Lib.hid (fun W (hW:Fut w W) => (show Calls Tryz.prog 350 #[.agg #[.int .i8 op2,.string tv2,.int .i8 xk2,.int .i64 xn2,.string xs2,.slice A2 ks2.length c2],.int .i64 8] W _ from rexpr_any 8 (by omega) (Ex.mk op2 ⟨tv2,⟨xk2,xn2,xs2⟩⟩ ks2) _ _ W (RE.stays _ _ _ _ _ hW H2)))
 generalize Ex.empty (Ex.mk op1 ⟨tv1,⟨xk1,xn1,xs1⟩⟩ ks1) = q1 at *
 generalize Ex.empty (Ex.mk op2 ⟨tv2,⟨xk2,xn2,xs2⟩⟩ ks2) = q2 at *
 generalize deepE 8 (Ex.mk op1 ⟨tv1,⟨xk1,xn1,xs1⟩⟩ ks1) = y1 at *
 generalize deepE 8 (Ex.mk op2 ⟨tv2,⟨xk2,xn2,xs2⟩⟩ ks2) = y2 at *
 have hal:a.length ≤ 9223372036854775807:=by omega
 clear hbx h1 h2 H1 H2
 by_cases hk12:k = 1∨k = 2
 ·rw [if_pos hk12] at hb
  generalize atomG p a = q0 at *
  clear ha HX1 HX2
  have step:∀ (K:Int),(K = 1∨K = 2)→k = K→Calls Tryz.prog 325 #[.agg #[.int .i8 k,.string p,.slice A a.length c,.int .i8 r,.int .i8 op1,.string tv1,.int .i8 xk1,.int .i64 xn1,.string xs1,.slice A1 ks1.length c1,.int .i8 op2,.string tv2,.int .i8 xk2,.int .i64 xn2,.string xs2,.slice A2 ks2.length c2]] w fun e w' => e = .returned (.bool b)∧Fut w w':=by
   intro K hK hkK
   subst hkK
   rcases hK with rfl | rfl
   all_goals
    go_enter Tryz.func325,Tryz.ntmps325
    go_wp2_with (first | (show wpList _ _ _ (Oper.mk _ (Op.load 108 _) _ _ _ _ :: _) _ _;refine wpList_loadG (by go_simp) _ _ rfl w.heap.size 1 rfl [.string p,.slice A a.length c] _ lA Tryz.underlying108 rfl infoAtN ?_))
    refine (HA.out _ F0.out).mono ?_
    rintro e w1 ⟨rfl,f1⟩
    have F1:=Lib.hid (F0.out.trans f1)
    have b1:=Lib.hid (f1.block HB.out)
    have z3:=f1.cell x3
    clear f1 x0 x1 x2 x3 lA HA
    cases q0
    ·obtain rfl:b = false:=(by rw [← hb];simp)
     go_wp2
     go_ret
     exact ⟨rfl,F1.out⟩
    ·by_cases hr:r = 0
     ·subst hr
      replace lB:World.rangeAt _ w.heap.size 4 [.int .i8 op1,.string tv1,.int .i8 xk1,.int .i64 xn1,.string xs1,.slice A1 ks1.length c1]:=range_mid (cs:=[.int .i8 _,.string p,.slice A a.length c,.int .i8 0,.int .i8 op1,.string tv1,.int .i8 xk1,.int .i64 xn1,.string xs1,.slice A1 ks1.length c1,.int .i8 op2,.string tv2,.int .i8 xk2,.int .i64 xn2,.string xs2,.slice A2 ks2.length c2]) b1.out 4 6
      go_wp2_with (first | (show wpList _ _ _ (Oper.mk _ (Op.load 118 _) _ _ _ _ :: _) _ _;refine wpList_loadG (by go_simp) _ _ rfl w.heap.size 4 rfl [.int .i8 op1,.string tv1,.int .i8 xk1,.int .i64 xn1,.string xs1,.slice A1 ks1.length c1] _ lB Tryz.underlying118 rfl infoEx6' ?_))
      refine (HN1.out _).mono ?_
      rintro e w2 ⟨rfl,f2⟩
      have F2:=Lib.hid (F1.out.trans f2)
      have lC:World.rangeAt _ w.heap.size 10 [.int .i8 op2,.string tv2,.int .i8 xk2,.int .i64 xn2,.string xs2,.slice A2 ks2.length c2]:=range_mid (cs:=[.int .i8 _,.string p,.slice A a.length c,.int .i8 0,.int .i8 op1,.string tv1,.int .i8 xk1,.int .i64 xn1,.string xs1,.slice A1 ks1.length c1,.int .i8 op2,.string tv2,.int .i8 xk2,.int .i64 xn2,.string xs2,.slice A2 ks2.length c2]) (f2.block b1.out) 10 6
      clear f2 lB z3 HN1
      cases q1
      ·obtain rfl:b = false:=(by rw [← hb];simp)
       go_wp2
       go_ret
       exact ⟨rfl,F2.out⟩
      ·go_wp2_with (first | (show wpList _ _ _ (Oper.mk _ (Op.load 118 _) _ _ _ _ :: _) _ _;refine wpList_loadG (by go_simp) _ _ rfl w.heap.size 10 rfl [.int .i8 op2,.string tv2,.int .i8 xk2,.int .i64 xn2,.string xs2,.slice A2 ks2.length c2] _ lC Tryz.underlying118 rfl infoEx6' ?_))
       refine (HN2.out _).mono ?_
       rintro e w3 ⟨rfl,f3⟩
       have F3:=F2.out.trans f3
       obtain rfl:b = q2:=(by rw [← hb];simp)
       clear f3 lC HN2 hb
       go_wp2
       go_ret
       exact ⟨rfl,F3⟩
     ·have hrb:(r == 0) = false:=(by rw [beq_eq_false_iff_ne];exact hr)
      obtain rfl:b = false:=(by rw [← hb,decide_eq_false hr];simp)
      go_wp2
      go_ret
      exact ⟨rfl,F1.out⟩
  rcases hk12 with q | q
  ·exact step 1 (.inl rfl) q
  ·exact step 2 (.inr rfl) q
 ·rw [if_neg hk12] at hb
  clear HA HN1 HN2 lA ha hcm
  generalize a.length = na at *
  have hk1:(k == 1) = false:=(by rw [beq_eq_false_iff_ne];exact fun h => hk12 (.inl h))
  have hk2:(k == 2) = false:=(by rw [beq_eq_false_iff_ne];exact fun h => hk12 (.inr h))
  by_cases hk3:k = 3
  ·subst hk3
   rw [if_pos rfl] at hb
   clear hk12 hk1 hk2
   by_cases hp0:p.toList = []
   ·have hpb:(p.toList == []) = true:=(by rw [hp0];rfl)
    by_cases hl0:na = 0
    ·subst hl0
     by_cases hr1:1 ≤ r
     ·by_cases hr6:r ≤ 6
      ·replace hb:(y1 && y2) = b:=(by rw [← hb,decide_eq_true hp0,decide_eq_true hr1,decide_eq_true hr6];simp)
       go_enter Tryz.func325,Tryz.ntmps325
       go_wp2_with (first | (show wpList _ _ _ (Oper.mk _ (Op.load 118 _) _ _ _ _ :: _) _ _;refine wpList_loadG (by go_simp) _ _ rfl w.heap.size 4 rfl [.int .i8 op1,.string tv1,.int .i8 xk1,.int .i64 xn1,.string xs1,.slice A1 ks1.length c1] _ lB Tryz.underlying118 rfl infoEx6' ?_))
       refine (HX1.out _ F0.out).mono ?_
       rintro e w1 ⟨rfl,f1⟩
       have F1:=Lib.hid (F0.out.trans f1)
       have lC:World.rangeAt _ w.heap.size 10 [.int .i8 op2,.string tv2,.int .i8 xk2,.int .i64 xn2,.string xs2,.slice A2 ks2.length c2]:=range_mid (cs:=[.int .i8 3,.string p,.slice A _ c,.int .i8 r,.int .i8 op1,.string tv1,.int .i8 xk1,.int .i64 xn1,.string xs1,.slice A1 ks1.length c1,.int .i8 op2,.string tv2,.int .i8 xk2,.int .i64 xn2,.string xs2,.slice A2 ks2.length c2]) (f1.block HB.out) 10 6
       clear f1 x0 x1 x2 x3 lB HX1
       cases y1
       ·obtain rfl:b = false:=(by rw [← hb];simp)
        go_wp2
        go_ret
        exact ⟨rfl,F1.out⟩
       ·obtain rfl:b = y2:=(by rw [← hb];simp)
        clear hb
        go_wp2_with (first | (show wpList _ _ _ (Oper.mk _ (Op.load 118 _) _ _ _ _ :: _) _ _;refine wpList_loadG (by go_simp) _ _ rfl w.heap.size 10 rfl [.int .i8 op2,.string tv2,.int .i8 xk2,.int .i64 xn2,.string xs2,.slice A2 ks2.length c2] _ lC Tryz.underlying118 rfl infoEx6' ?_))
        refine (HX2.out _ F1.out).mono ?_
        rintro e w3 ⟨rfl,f3⟩
        have F3:=F1.out.trans f3
        clear f3 lC HX2
        go_wp2
        go_ret
        exact ⟨rfl,F3⟩
      ·obtain rfl:b = false:=(by rw [← hb,decide_eq_false hr6];simp)
       clear hb lB HX1 HX2
       go_enter Tryz.func325,Tryz.ntmps325
       go_wp2
       go_ret
       exact ⟨rfl,F0.out⟩
     ·obtain rfl:b = false:=(by rw [← hb,decide_eq_false hr1];simp)
      clear hb lB HX1 HX2
      go_enter Tryz.func325,Tryz.ntmps325
      go_wp2
      go_ret
      exact ⟨rfl,F0.out⟩
    ·have hlb:((na:Int) == 0) = false:=(by rw [beq_eq_false_iff_ne];omega)
     obtain rfl:b = false:=(by rw [← hb,decide_eq_false hl0];simp)
     clear hb lB HX1 HX2
     go_enter Tryz.func325,Tryz.ntmps325
     go_wp2
     go_ret
     exact ⟨rfl,F0.out⟩
   ·have hpb:(p.toList == []) = false:=(by rw [beq_eq_false_iff_ne];exact hp0)
    obtain rfl:b = false:=(by rw [← hb,decide_eq_false hp0];simp)
    clear hb lB HX1 HX2
    go_enter Tryz.func325,Tryz.ntmps325
    go_wp2
    go_ret
    exact ⟨rfl,F0.out⟩
  ·have hkb:(k == 3) = false:=(by rw [beq_eq_false_iff_ne];exact hk3)
   rw [if_neg hk3] at hb
   obtain rfl:b = false:=hb.symm
   clear hb lB HX1 HX2
   go_enter Tryz.func325,Tryz.ntmps325
   go_wp2
   go_ret
   exact ⟨rfl,F0.out⟩
end Go.Proofs.YtobabnpllokkaaaGreatDoor
