/- Parts. -/
import Derived.Test.YtobabnpllokkaaaGreatDoorM08
import Derived.Test.YtobabnpllokkaaaGreatDoorM00
set_option linter.unusedSimpArgs false
set_option linter.unusedVariables false
namespace Go.Proofs.YtobabnpllokkaaaGreatDoor
open Go.RowKit Go.WideMaps Go.Maps
def ddVs (l:List ByteArray):List ByteArray:=l.foldl addVar []
def Ex.vars (x:Ex):List ByteArray:=ddVs x.vs
def tmVars (ts:List Tm):List ByteArray:=ddVs (ts.map (·.v))
def Ru.vars (r:Ru):List ByteArray:=ddVs (r.hs ++ r.bs)
abbrev Nms (B:Nat):World→Value→List ByteArray→Prop:=OwnL 1 B 9 RNm
set_option maxHeartbeats 1000000 in
theorem atomVars_any (p:ByteArray) (A:Option Addr) (c M:Nat) (ts:List Tm) (w:World) (h:SlRep 4 M RTm w (.slice A ts.length c) ts) (hM:M ≤ 9223372036854775807) (hl:ts.length ≤ 1000000000) :
    Calls Tryz.prog 272 #[.agg #[.string p,.slice A ts.length c]] w fun e w' => ∃ v,e = .returned v∧Nms w.heap.size w' v (tmVars ts)∧Fut w w':=by
 have hb:=heap_alloc_new w (.cells #[.string p,.slice A ts.length c] 108)
 have f0:=Fut.alloc w (.cells #[.string p,.slice A ts.length c] 108)
 have hs:(w.alloc (.cells #[.string p,.slice A ts.length c] 108)).heap.size = w.heap.size + 1:=by simp
 have HV:=Lib.hid (vars_of (w:=w.alloc (.cells #[.string p,.slice A ts.length c] 108)) _ (ts.map (·.v)) (by rw [List.length_map];exact hl) (walkA_any (pb:=w.heap.size) (po:=0) A c ts (h.fut RTm.stays f0) hM (cell_at hb 1 (.slice A ts.length c) rfl)))
 rw [hs] at HV
 clear h hb hs
 replace f0:=Lib.hid f0
 generalize ts.length = n at *
 go_enter Tryz.func272,Tryz.ntmps272
 go_wp2_with fail
 refine HV.out.mono ?_
 rintro e w1 ⟨v,rfl,h1,f1⟩
 have H1:=Lib.hid (And.intro (h1.base (Nat.le_succ _)) (f0.out.trans f1))
 clear h1 f1
 go_wp2
 go_ret
 exact ⟨_,rfl,H1.out⟩
set_option maxHeartbeats 1000000 in
theorem exprVars_any (x:Ex) (A:Option Addr) (c n:Nat) (w:World) (h:RE n w (x.cs (.slice A x.kids.length c)) x) (hl:x.size ≤ 1000000000) :
    Calls Tryz.prog 274 #[.agg (x.cs (.slice A x.kids.length c)).toArray] w fun e w' => ∃ v,e = .returned v∧Nms w.heap.size w' v x.vars∧Fut w w':=by
 have hb:=heap_alloc_new w (.cells (x.cs (.slice A x.kids.length c)).toArray 118)
 have f0:=Fut.alloc w (.cells (x.cs (.slice A x.kids.length c)).toArray 118)
 have hs:(w.alloc (.cells (x.cs (.slice A x.kids.length c)).toArray 118)).heap.size = w.heap.size + 1:=by simp
 have HV:=Lib.hid (vars_of (w:=w.alloc (.cells (x.cs (.slice A x.kids.length c)).toArray 118)) _ x.vs (by rw [Ex.vs_len];exact hl) (walkE_any n x _ w.heap.size 0 (RE.stays n _ _ _ _ f0 h) (fun j c' hj => by
  rw [Nat.zero_add]
  exact cell_at hb j c' (by simpa using hj))))
 rw [hs] at HV
 clear h hb hs
 replace f0:=Lib.hid f0
 unfold Ex.cs at *
 generalize x.kids.length = n at *
 generalize x.op = o at *
 generalize x.t = t at *
 go_enter Tryz.func274,Tryz.ntmps274
 go_wp2_with fail
 refine HV.out.mono ?_
 rintro e w1 ⟨v,rfl,h1,f1⟩
 have H1:=Lib.hid (And.intro (h1.base (Nat.le_succ _)) (f0.out.trans f1))
 clear h1 f1
 go_wp2
 go_ret
 exact ⟨_,rfl,H1.out⟩
set_option maxHeartbeats 1000000 in
theorem ruleVars_any (x:Ru) (Ah Ab:Option Addr) (ch cb:Nat) (w:World) (h1:SlRep 5 2513169434916 RAr w (.slice Ah x.h.length ch) x.h) (h2:SlRep 16 651562446089 RLt w (.slice Ab x.b.length cb) x.b) (hl:x.hs.length + x.bs.length ≤ 1000000000) :
    Calls Tryz.prog 250 #[.agg #[.string x.p,.slice Ah x.h.length ch,.slice Ab x.b.length cb]] w fun e w' => ∃ v,e = .returned v∧Nms w.heap.size w' v x.vars∧Fut w w':=by
 have hb:=heap_alloc_new w (.cells #[.string x.p,.slice Ah x.h.length ch,.slice Ab x.b.length cb] 82)
 have f0:=Fut.alloc w (.cells #[.string x.p,.slice Ah x.h.length ch,.slice Ab x.b.length cb] 82)
 have hs:(w.alloc (.cells #[.string x.p,.slice Ah x.h.length ch,.slice Ab x.b.length cb] 82)).heap.size = w.heap.size + 1:=by simp
 have HV:=Lib.hid (vars_of (w:=w.alloc (.cells #[.string x.p,.slice Ah x.h.length ch,.slice Ab x.b.length cb] 82)) _ (x.hs ++ x.bs) (by rw [List.length_append];exact hl) (walkR_any (pb:=w.heap.size) (po:=0) x Ah Ab ch cb (h1.fut RAr.stays f0) (h2.fut RLt.stays f0) (cell_at hb 1 (.slice Ah x.h.length ch) rfl) (cell_at hb 2 (.slice Ab x.b.length cb) rfl)))
 rw [hs] at HV
 clear h1 h2 hb hs
 replace f0:=Lib.hid f0
 generalize x.h.length = n at *
 generalize x.b.length = m at *
 generalize x.p = p at *
 go_enter Tryz.func250,Tryz.ntmps250
 go_wp2_with fail
 refine HV.out.mono ?_
 rintro e w1 ⟨v,rfl,h1,f1⟩
 have H1:=Lib.hid (And.intro (h1.base (Nat.le_succ _)) (f0.out.trans f1))
 clear h1 f1
 go_wp2
 go_ret
 exact ⟨_,rfl,H1.out⟩
def Ru.good (r:Ru):Bool:=nameT r.p && decide (r.h.length ≤ 24) && decide (r.b.length ≤ 16) && r.h.all Ar.good && r.b.all Lt.good && decide (r.vars.length ≤ 24)
end Go.Proofs.YtobabnpllokkaaaGreatDoor
namespace Go.Proofs.YtobabnpllokkaaaGreatDoor
open Go.RowKit Go.WideMaps Go.Maps
set_option maxHeartbeats 2000000 in
set_option maxRecDepth 100000 in
theorem checkR_any (x:Ru) (Ah Ab:Option Addr) (ch cb:Nat) (w:World) (hp:x.p.size ≤ 140737488351232) (h1:SlRep 5 2513169434916 RAr w (.slice Ah x.h.length ch) x.h) (h2:SlRep 16 651562446089 RLt w (.slice Ab x.b.length cb) x.b) (hl:x.hs.length + x.bs.length ≤ 1000000000) :
    Calls Tryz.prog 270 #[.agg #[.string x.p,.slice Ah x.h.length ch,.slice Ab x.b.length cb]] w fun e w' => e = .returned (.int .i64 (if x.good = true then 0 else 40))∧Fut w w':=by
 have HN:=Lib.hid (fun W => nameT_any x.p W hp)
 have HV:=Lib.hid (fun W (hW:Fut w W) => ruleVars_any x Ah Ab ch cb W (h1.fut RAr.stays hW) (h2.fut RLt.stays hW) hl)
 have hh:=h1.len
 have hb:=h2.len
 have H1:=Lib.hid h1
 have H2:=Lib.hid h2
 obtain ⟨b,hgb⟩:∃ b,x.good = b:=⟨_,rfl⟩
 rw [hgb]
 unfold Ru.good at hgb
 clear h1 h2 hl
 obtain ⟨nm,hnm⟩:∃ nm,nameT x.p = nm:=⟨_,rfl⟩
 rw [hnm] at HN hgb
 clear hnm
 generalize x.vars = vars at *
 obtain ⟨p,xh,xb⟩:=x
 dsimp only at *
 have hbx:=heap_alloc_new w (.cells #[.string p,.slice Ah xh.length ch,.slice Ab xb.length cb] 82)
 have FB:=Lib.hid (Fut.alloc w (.cells #[.string p,.slice Ah xh.length ch,.slice Ab xb.length cb] 82))
 replace hgb:=Lib.hid hgb
 cases nm
 ·obtain rfl:b = false:=by rw [← hgb.out];simp
  go_enter Tryz.func270,Tryz.ntmps270
  go_wp2_with fail
  refine (HN.out _).mono ?_
  rintro e w1 ⟨rfl,f1⟩
  go_wp2
  go_ret
  exact ⟨by first | rfl | simp,FB.out.trans f1⟩
 by_cases hlh:xh.length ≤ 24
 rotate_left
 ·obtain rfl:b = false:=by rw [← hgb.out];simp [hlh]
  have hlI:(xh.length:Int) > 24:=by omega
  go_enter Tryz.func270,Tryz.ntmps270
  go_wp2_with fail
  refine (HN.out _).mono ?_
  rintro e w1 ⟨rfl,f1⟩
  have y1:=cell_at (f1.block hbx) 1 (.slice Ah xh.length ch) rfl
  go_wp2
  go_ret
  exact ⟨by first | rfl | simp,FB.out.trans f1⟩
 by_cases hlb:xb.length ≤ 16
 rotate_left
 ·obtain rfl:b = false:=by rw [← hgb.out];simp [hlb]
  have hlI:¬ (xh.length:Int) > 24:=by omega
  have hlJ:(xb.length:Int) > 16:=by omega
  have hlN:¬ 24 < xh.length:=by omega
  go_enter Tryz.func270,Tryz.ntmps270
  go_wp2_with fail
  refine (HN.out _).mono ?_
  rintro e w1 ⟨rfl,f1⟩
  have y1:=cell_at (f1.block hbx) 1 (.slice Ah xh.length ch) rfl
  have y2:=cell_at (f1.block hbx) 2 (.slice Ab xb.length cb) rfl
  go_wp2
  go_ret
  exact ⟨by first | rfl | simp,FB.out.trans f1⟩
 have hlI:¬ (xh.length:Int) > 24:=by omega
 have hlJ:¬ (xb.length:Int) > 16:=by omega
 have hlN:¬ 24 < xh.length:=by omega
 have hlM:¬ 16 < xb.length:=by omega
 replace hgb:=Lib.hid (show (xh.all Ar.good && xb.all Lt.good && decide (vars.length ≤ 24)) = b by rw [← hgb.out];simp [hlh,hlb])
 go_enter Tryz.func270,Tryz.ntmps270
 go_wp2_with fail
 refine (HN.out _).mono ?_
 rintro e w1 ⟨rfl,f1⟩
 have y1:=cell_at (f1.block hbx) 1 (.slice Ah xh.length ch) rfl
 have y2:=cell_at (f1.block hbx) 2 (.slice Ab xb.length cb) rfl
 have HB:=Lib.hid (f1.block hbx)
 have F1:=Lib.hid (FB.out.trans f1)
 clear f1 hbx
 go_wp2_with fail
 go_loopw [27] (fun i wr => ∃ k:Nat,k ≤ xh.length∧i = .int .i64 k∧Hid (Fut w wr)∧Hid (Fut w1 wr)∧Hid (∀ y ∈ xh.take k,y.good = true)) (fun i _ => xh.length - (intOf i).toNat)
 case atStart => exact ⟨0,Nat.zero_le _,rfl,F1,Lib.hid (Fut.refl _),Lib.hid (fun y hy => by simp at hy)⟩
 case round =>
  obtain ⟨k,hk,rfl,hF,hG,hA⟩:=hrel
  by_cases hlt:k < xh.length
  ·have hltI:(k:Int) < xh.length:=by omega
   have e0:(0:Int) ≤ k∧(k:Int) < xh.length:=by omega
   obtain ⟨b',off,rfl,_,hok,u0,u1,u2,u3,u4⟩:=ar_at (H1.out.fut RAr.stays hF.out) hlt
   have hnx:=Lib.hid (List.take_succ_eq_append_getElem hlt)
   have hmem:=Lib.hid (List.getElem_mem hlt)
   generalize xh[k] = z at *
   have HC:=Lib.hid (fun W => argT_any z W hok)
   obtain ⟨d,hd⟩:∃ d,z.good = d:=⟨_,rfl⟩
   simp only [hd] at HC
   replace hd:=Lib.hid hd
   have hb0:=heap_alloc_new wr (.cells #[.int .i8 z.g,.string z.t.v,.int .i8 z.t.x.k,.int .i64 z.t.x.n,.string z.t.x.s] 190)
   have f0:=Lib.hid (Fut.alloc wr (.cells #[.int .i8 z.g,.string z.t.v,.int .i8 z.t.x.k,.int .i64 z.t.x.n,.string z.t.x.s] 190))
   cases d
   ·obtain rfl:b = false:=by
      rw [← hgb.out]
      have h9:xh.all Ar.good = false:=List.all_eq_false.2 ⟨z,hmem.out,by rw [hd.out];decide⟩
      rw [h9];rfl
    go_wp2_with fail
    refine (HC.out _).mono ?_
    rintro e w3 ⟨rfl,f3⟩
    go_wp2
    go_ret
    exact ⟨by first | rfl | simp,(hF.out.trans f0.out).trans f3⟩
   ·go_wp2_with fail
    refine (HC.out _).mono ?_
    rintro e w3 ⟨rfl,f3⟩
    have HF3:=Lib.hid ((hF.out.trans f0.out).trans f3)
    have HG3:=Lib.hid ((hG.out.trans f0.out).trans f3)
    have HA3:Hid (∀ y ∈ xh.take (k + 1),y.good = true):=Lib.hid fun y hy => by
     rw [hnx.out,List.mem_append] at hy
     rcases hy with hy | hy
     ·exact hA.out y hy
     ·rw [List.mem_singleton] at hy;subst hy;exact hd.out
    clear f3
    go_wp2
    go_roundw
    case rel => exact ⟨k + 1,by omega,by go_num,HF3,HG3,HA3⟩
    case measure => simp [intOf] <;> omega
  ·obtain rfl:k = xh.length:=by omega
   obtain ⟨wo,hwo⟩:∃ x,x = wr:=⟨_,rfl⟩
   subst hwo
   rw [List.take_length] at hA
   have hall:xh.all Ar.good = true:=List.all_eq_true.2 hA.out
   replace hgb:=Lib.hid (show (xb.all Lt.good && decide (vars.length ≤ 24)) = b by rw [← hgb.out,hall];rfl)
   have z1:=cell_at (hG.out.block HB.out) 2 (.slice Ab xb.length cb) rfl
   have HBw:=Lib.hid (hG.out.block HB.out)
   have HFw:=Lib.hid hF.out
   clear hG hA hall F1 HB hF
   go_wp2_with fail
   go_loopw [38] (fun i W => ∃ k:Nat,k ≤ xb.length∧i = .int .i64 k∧Hid (Fut w W)∧Hid (Fut wo W)∧Hid (∀ y ∈ xb.take k,y.good = true)) (fun i _ => xb.length - (intOf i).toNat)
   case atStart => exact ⟨0,Nat.zero_le _,rfl,HFw,Lib.hid (Fut.refl _),Lib.hid (fun y hy => by simp at hy)⟩
   case round =>
    obtain ⟨k,hk,rfl,hF,hG,hA⟩:=hrel
    by_cases hlt:k < xb.length
    ·have hltI:(k:Int) < xb.length:=by omega
     have e0:(0:Int) ≤ k∧(k:Int) < xb.length:=by omega
     obtain ⟨b',off,A',c,Al,l',cl,Ad,d',cd,rfl,hcs,_,_,g3⟩:=lt_at (H2.out.fut RLt.stays hF.out) hlt
     have hnx:=Lib.hid (List.take_succ_eq_append_getElem hlt)
     have hmem:=Lib.hid (List.getElem_mem hlt)
     generalize xb[k] = z at *
     have u0:wr.cell? ⟨b',off + k * 16,none⟩ = some (.int .i8 z.k):=hcs 0 _ rfl
     have u1:=hcs 1 _ rfl
     have u2:=hcs 2 _ rfl
     have u3:=hcs 3 _ rfl
     have u4:=hcs 4 _ rfl
     have u5:=hcs 5 _ rfl
     have u6:=hcs 6 _ rfl
     have u7:=hcs 7 _ rfl
     have u8:=hcs 8 _ rfl
     have u9:=hcs 9 _ rfl
     have u10:=hcs 10 _ rfl
     have u11:=hcs 11 _ rfl
     have u12:=hcs 12 _ rfl
     have u13:=hcs 13 _ rfl
     have u14:=hcs 14 _ rfl
     have u15:=hcs 15 _ rfl
     have HC:=Lib.hid (fun W (hW:Fut wr W) => checkL_any z A' c (.slice Al l' cl) (.slice Ad d' cd) W (g3.fut hW))
     obtain ⟨d,hd⟩:∃ d,z.good = d:=⟨_,rfl⟩
     simp only [hd] at HC
     replace hd:=Lib.hid hd
     clear hcs g3
     obtain ⟨zk,zp,za,zr,zl,zd⟩:=z
     dsimp only [Lt.cs] at u0 u1 u2 u3 u4 u5 u6 u7 u8 u9 u10 u11 u12 u13 u14 u15 HC
     generalize zl.t = lt at *
     generalize zl.op = lo at *
     generalize zd.t = dt at *
     generalize zd.op = do' at *
     generalize za.length = na at *
     have f0:=Lib.hid (Fut.alloc wr (.cells #[.int .i8 zk,.string zp,.slice A' na c,.int .i8 zr,.int .i8 lo,.string lt.v,.int .i8 lt.x.k,.int .i64 lt.x.n,.string lt.x.s,.slice Al l' cl,.int .i8 do',.string dt.v,.int .i8 dt.x.k,.int .i64 dt.x.n,.string dt.x.s,.slice Ad d' cd] 120))
     cases d
     ·obtain rfl:b = false:=by
        rw [← hgb.out]
        have h9:xb.all Lt.good = false:=List.all_eq_false.2 ⟨_,hmem.out,by rw [hd.out];decide⟩
        rw [h9];rfl
      go_wp2_with fail
      refine (HC.out _ f0.out).mono ?_
      rintro e w3 ⟨rfl,f3⟩
      go_wp2
      go_ret
      exact ⟨by first | rfl | simp,(hF.out.trans f0.out).trans f3⟩
     ·go_wp2_with fail
      refine (HC.out _ f0.out).mono ?_
      rintro e w3 ⟨rfl,f3⟩
      have HF3:=Lib.hid ((hF.out.trans f0.out).trans f3)
      have HG3:=Lib.hid ((hG.out.trans f0.out).trans f3)
      have HA3:Hid (∀ y ∈ xb.take (k + 1),y.good = true):=Lib.hid fun y hy => by
       rw [hnx.out,List.mem_append] at hy
       rcases hy with hy | hy
       ·exact hA.out y hy
       ·rw [List.mem_singleton] at hy;subst hy;exact hd.out
      clear f3
      go_wp2
      go_roundw
      case rel => exact ⟨k + 1,by omega,by go_num,HF3,HG3,HA3⟩
      case measure => simp [intOf] <;> omega
    ·obtain rfl:k = xb.length:=by omega
     rw [List.take_length] at hA
     have hall:xb.all Lt.good = true:=List.all_eq_true.2 hA.out
     replace hgb:=Lib.hid (show decide (vars.length ≤ 24) = b by rw [← hgb.out,hall];rfl)
     have hb1:=hG.out.block HBw.out
     have z0:=cell_at hb1 0 (.string p) rfl
     have z1:=cell_at hb1 1 (.slice Ah xh.length ch) rfl
     have z2:=cell_at hb1 2 (.slice Ab xb.length cb) rfl
     clear hb1 hA hall
     go_wp2_with fail
     refine (HV.out _ hF.out).mono ?_
     rintro e w3 ⟨v,rfl,hv,f3⟩
     obtain ⟨A3,c3,rfl,_,_⟩:=hv.rep.form
     have HF3:=Lib.hid (hF.out.trans f3)
     clear hv f3
     generalize vars.length = nv at *
     by_cases hnv:nv ≤ 24
     ·obtain rfl:b = true:=by rw [← hgb.out];simp [hnv]
      have hnI:(nv:Int) ≤ 24:=by omega
      go_wp2_with fail
      refine (codeT_any true _).mono ?_
      rintro e w4 ⟨rfl,rfl⟩
      go_wp2
      go_ret
      exact ⟨by first | rfl | simp,HF3.out⟩
     ·obtain rfl:b = false:=by rw [← hgb.out];simp [hnv]
      have hnI:¬ (nv:Int) ≤ 24:=by omega
      have hC:∀ W,Calls Tryz.prog 311 #[.bool (decide ((nv:Int) ≤ 24))] W fun e w' => e = .returned (.int .i64 40)∧w' = W:=fun W => by rw [decide_eq_false hnI];exact codeT_any false W
      go_wp2_with fail
      refine (hC _).mono ?_
      rintro e w4 ⟨rfl,rfl⟩
      go_wp2
      go_ret
      exact ⟨by first | rfl | simp,HF3.out⟩
end Go.Proofs.YtobabnpllokkaaaGreatDoor
namespace Go.Proofs.YtobabnpllokkaaaGreatDoor
open Go.RowKit Go.WideMaps Go.Maps
def addF (L:List ByteArray) (v:ByteArray):List ByteArray:=if v ∈ L then L else L ++ [v]
theorem addF_len (L:List ByteArray) (v:ByteArray):(addF L v).length ≤ L.length + 1:=by
 unfold addF
 split
 ·omega
 ·simp
theorem foldF_len:∀ (vs L:List ByteArray),(vs.foldl addF L).length ≤ L.length + vs.length
 | [],L => by simp
 | v :: r,L => by
  rw [List.foldl_cons,List.length_cons]
  have h1:=foldF_len r (addF L v)
  have h2:=addF_len L v
  omega
def allIn (L vs:List ByteArray):Bool:=vs.all fun v => decide (v ∈ L)
structure Eqn where
 l:ByteArray
 r:ByteArray
 ls:List ByteArray
 rs:List ByteArray
def Eqn.takes (q:Eqn) (L:List ByteArray):Bool × List ByteArray :=
 if q.l.toList ≠ []∧q.l ∉ L∧allIn L q.rs = true then (true,L ++ [q.l])
 else if q.r.toList ≠ []∧q.r ∉ L∧allIn L q.ls = true then (true,L ++ [q.r])
 else (false,L)
def stepE (s:List Eqn × List ByteArray) (q:Eqn):List Eqn × List ByteArray :=
 if (q.takes s.2).1 = true then (s.1,(q.takes s.2).2) else (s.1 ++ [q],(q.takes s.2).2)
def roundE (qs:List Eqn) (L:List ByteArray):List Eqn × List ByteArray:=qs.foldl stepE ([],L)
theorem stepE_len (s:List Eqn × List ByteArray) (q:Eqn):(stepE s q).1.length ≤ s.1.length + 1:=by
 unfold stepE
 split
 ·simp
 ·simp
theorem foldE_len:∀ (qs:List Eqn) (s:List Eqn × List ByteArray),(qs.foldl stepE s).1.length ≤ s.1.length + qs.length
 | [],s => by simp
 | q :: r,s => by
  rw [List.foldl_cons,List.length_cons]
  have h1:=foldE_len r (stepE s q)
  have h2:=stepE_len s q
  omega
theorem roundE_len (qs:List Eqn) (L:List ByteArray):(roundE qs L).1.length ≤ qs.length:=by
 have:=foldE_len qs ([],L)
 unfold roundE
 simpa using this
def loopE:Nat→List Eqn→List ByteArray→List ByteArray
 | 0,_,L => L
 | n + 1,qs,L => if (roundE qs L).1.length < qs.length then loopE n (roundE qs L).1 (roundE qs L).2 else (roundE qs L).2
def Ex.lone (e:Ex):ByteArray:=if e.op = 0∧e.kids.length = 0∧e.t.v.toList ≠ [95] then e.t.v else ⟨#[]⟩
def Lt.eqn (x:Lt):Eqn:=⟨x.l.lone,x.d.lone,x.l.vars,x.d.vars⟩
def stepB (s:List Eqn × List ByteArray) (x:Lt):List Eqn × List ByteArray :=
 if x.k = 1 then (s.1,(tmVars x.a).foldl addF s.2) else if x.k = 3∧x.r = 1 then (s.1 ++ [x.eqn],s.2) else s
def beginB (b:List Lt):List Eqn × List ByteArray:=b.foldl stepB ([],[])
def limitsB (b:List Lt):List ByteArray:=loopE ((beginB b).1.length + 1) (beginB b).1 (beginB b).2
def Ru.safe (r:Ru):Bool:=allIn (limitsB r.b) r.vars
def Ru.errno (r:Ru):Int:=if r.good = true then (if r.safe = true then 0 else 73) else 40
def Lt.works (x:Lt):Bool:=decide (x.k = 3) && (!decide (x.l.op = 0) || !decide (x.d.op = 0))
def Ru.posB (r:Ru):List Lt:=r.b.filter fun x => decide (x.k = 1)
def Ru.makes (r:Ru):Bool:=decide (r.errno = 0) && r.b.any Lt.works && !allIn (limitsB r.posB) (ddVs r.hs)
abbrev tFd:TypeId:=373
structure FdSt (B:Nat) (w:World) (fb mb:Nat) (L:List ByteArray) (lv:Value):Prop where
 cell:w.heap[fb]? = some (.cells #[lv,.map (some mb)] tFd (0,0))
 list:OwnL 1 B 9 RNm w lv L
 map:MapE strV w mb (numE 0 L)
 sizes:∀ s ∈ L,s.size ≤ 140737488351232
 low:B ≤ fb∧B ≤ mb
def ffoot (fb mb:Nat) (lv:Value) (k:Nat):Prop:=k = fb∨k = mb∨lv.ownBlock = some k
section
variable {B fb mb:Nat} {w w':World} {L:List ByteArray} {lv:Value}
theorem FdSt.sep (h:FdSt B w fb mb L lv):mb ≠ fb∧∀ k,lv.ownBlock = some k→k ≠ fb∧k ≠ mb:=by
 refine ⟨map_ne h.map h.cell,fun k hk => ?_⟩
 obtain ⟨arr,h1⟩:=h.list.typed k hk
 refine ⟨fun e => ?_,fun e => map_ne h.map h1 e.symm⟩
 rw [e,h.cell] at h1
 injection h1 with h1
 injection h1 with _ h2
 exact absurd h2 (by decide)
theorem FdSt.fut (h:FdSt B w fb mb L lv) (hf:Fut w w'):FdSt B w' fb mb L lv :=
 ⟨hf.block h.cell,h.list.fut RNm.stays hf,h.map.fut hf,h.sizes,h.low⟩
theorem FdSt.ok (h:FdSt B w fb mb L lv):∀ q ∈ numE 0 L,q.1.size ≤ maxLen:=fun q hq => by
 have:q.1 ∈ (numE 0 L).map (·.1):=List.mem_map.2 ⟨q,hq,rfl⟩
 rw [numE_keys] at this
 exact Nat.le_trans (h.sizes _ this) (by unfold maxLen;omega)
theorem FdSt.only {S:Nat→Prop} (h:FdSt B w fb mb L lv) (hO:Only S w w') (hS:∀ k,ffoot fb mb lv k→¬ S k):FdSt B w' fb mb L lv :=
 ⟨hO.keeps h.cell (hS _ (.inl rfl)),h.list.only (fun _ _ h => h) hO fun k hk => hS _ (.inr (.inr hk)),h.map.kept (hO.block mb h.map.lt (hS _ (.inr (.inl rfl)))),h.sizes,h.low⟩
theorem FdSt.grow {W:World} {v:ByteArray} {v':Value} (h:FdSt B W fb mb L lv) (o:OwnL 1 B 9 RNm w' v' (L ++ [v])) (g:W.grownBy w' lv.ownBlock) (sn:SameOrNew W lv v') (hv:v.size ≤ 140737488351232) :
    w'.cell? ⟨fb,0,none⟩ = some lv∧w'.frozen? ⟨fb,0,none⟩ = false∧MapE strV (w'.setCell ⟨fb,0,none⟩ v') mb (numE 0 L)∧(w'.setCell ⟨fb,0,none⟩ v').cell? ⟨fb,1,none⟩ = some (.map (some mb))∧(w'.setCell ⟨fb,0,none⟩ v').cell? ⟨fb,0,none⟩ = some v' ∧
     Only (ffoot fb mb lv) W (w'.setCell ⟨fb,0,none⟩ v')∧∀ w2 w3,Fut (w'.setCell ⟨fb,0,none⟩ v') w2→MapE strV w3 mb (numE 0 (L ++ [v]))→w2.grownBy w3 (some mb)→FdSt B w3 fb mb (L ++ [v]) v':=by
 obtain ⟨s1,s4⟩:=h.sep
 have O1:Only (fun k => lv.ownBlock = some k) W w':=Only.grown g fun k hk => hk
 have b1:=O1.keeps h.cell (fun e => (s4 _ e).1 rfl)
 have m1:MapE strV w' mb (numE 0 L):=h.map.kept (O1.block mb h.map.lt fun e => (s4 _ e).2 rfl)
 have O2:Only (fun k => k = fb) w' (w'.setCell ⟨fb,0,none⟩ v'):=Only.set _ _ rfl
 have b3:(w'.setCell ⟨fb,0,none⟩ v').heap[fb]? = some (.cells #[v',.map (some mb)] tFd (0,0)):=by simp [World.setCell,Array.getElem?_modify,b1]
 have m2:MapE strV (w'.setCell ⟨fb,0,none⟩ v') mb (numE 0 L):=m1.kept (O2.block mb m1.lt s1)
 have hob:∀ k,v'.ownBlock = some k→k ≠ fb∧k ≠ mb:=fun k hk => by
  rcases sn with e | e
  ·rw [e] at hk;exact s4 k hk
  ·have h1:=e k hk
   have h2:=(Array.getElem?_eq_some_iff.1 h.cell).1
   have h3:=h.map.lt
   exact ⟨by omega,by omega⟩
 have o2:OwnL 1 B 9 RNm (w'.setCell ⟨fb,0,none⟩ v') v' (L ++ [v]):=o.only (fun _ _ h => h) O2 fun k hk => (hob k hk).1
 refine ⟨cell_at b1 0 _ rfl,free_at b1 0,m2,cell_at b3 1 _ rfl,cell_at b3 0 _ rfl,(O1.mono fun k _ hk => .inr (.inr hk)).trans (O2.mono fun k _ hk => .inl hk),fun w2 w3 f2 m3 g3 => ?_⟩
 have O3:Only (fun k => k = mb) (w'.setCell ⟨fb,0,none⟩ v') w3:=(Only.fut f2).trans (Only.grown g3 fun k hk => by injection hk with hk;exact hk.symm)
 exact ⟨O3.keeps b3 (fun e => s1 e.symm),o2.only (fun _ _ h => h) O3 fun k hk => (hob k hk).2,m3,fun s hs => by
  rcases List.mem_append.1 hs with hs | hs
  ·exact h.sizes s hs
  ·rw [List.mem_singleton] at hs;subst hs;exact hv,h.low⟩
end
set_option maxHeartbeats 1000000 in
theorem hasF_any {B fb mb:Nat} {L:List ByteArray} {lv:Value} (v:ByteArray) (w:World) (h:FdSt B w fb mb L lv) (hv:v.size ≤ 140737488351232) :
    Calls Tryz.prog 277 #[.pointer (some ⟨fb,0,none⟩),.string v] w fun e w' => e = .returned (.bool (decide (v ∈ L)))∧w' = w:=by
 have y2:=cell_at h.cell 1 _ rfl
 have hvm:v.size ≤ maxLen:=Nat.le_trans hv (by unfold maxLen;omega)
 have HL:=fun W (hW:Fut w W) => show (Instr.lookup tVm (.map (some mb)) (.string v) false).run Tryz.prog W = .ok ((getE (numE 0 L) v).getD (.int .i64 0)) W from ((h.map.fut hW).look keyStr h.ok Tryz.underlying97 zeroInt (x:=v) hvm).1
 replace HL:=HL w (Fut.refl w)
 by_cases e3:v ∈ L
 ·obtain ⟨n,hn,hg⟩:=numE_in 0 L v e3
  rw [hg,Option.getD_some] at HL
  have hn':(n:Int) > 0:=by omega
  have hn'':0 < n:=by omega
  obtain ⟨d,hd⟩:∃ d,decide (v ∈ L) = d:=⟨_,rfl⟩
  obtain rfl:d = true:=by rw [← hd];simpa using e3
  rw [hd]
  clear hg hd e3
  go_enter Tryz.func277,Tryz.ntmps277
  go_wp2
  go_ret
  exact ⟨rfl,rfl⟩
 ·have hnk:∀ q ∈ numE 0 L,q.1 ≠ v:=fun q hq e => e3 (by
    have h9:q.1 ∈ (numE 0 L).map (·.1):=List.mem_map.2 ⟨q,hq,rfl⟩
    rw [numE_keys,e] at h9;exact h9)
  rw [getE_none hnk,Option.getD_none] at HL
  obtain ⟨d,hd⟩:∃ d,decide (v ∈ L) = d:=⟨_,rfl⟩
  obtain rfl:d = false:=by rw [← hd];simpa using e3
  rw [hd]
  clear hnk hd e3
  go_enter Tryz.func277,Tryz.ntmps277
  go_wp2
  go_ret
  exact ⟨rfl,rfl⟩
theorem allIn_take {L vs:List ByteArray} {k:Nat} (hk:k < vs.length) (h:∀ y ∈ vs.take k,y ∈ L) (hx:vs[k] ∈ L):∀ y ∈ vs.take (k + 1),y ∈ L:=fun y hy => by
 rw [List.take_succ_eq_append_getElem hk,List.mem_append] at hy
 rcases hy with hy | hy
 ·exact h y hy
 ·rw [List.mem_singleton] at hy;subst hy;exact hx
set_option maxHeartbeats 1000000 in
theorem allF_any {B fb mb M:Nat} {L:List ByteArray} {lv:Value} (A:Option Addr) (c:Nat) (vs:List ByteArray) (w:World) (h:FdSt B w fb mb L lv) (hv:SlRep 1 M RNm w (.slice A vs.length c) vs) (hM:M ≤ 9223372036854775807) (hs:∀ v ∈ vs,v.size ≤ 140737488351232) :
    Calls Tryz.prog 249 #[.pointer (some ⟨fb,0,none⟩),.slice A vs.length c] w fun e w' => e = .returned (.bool (allIn L vs))∧w' = w:=by
 obtain ⟨b,hb⟩:∃ b,allIn L vs = b:=⟨_,rfl⟩
 rw [hb]
 replace hb:=Lib.hid hb
 obtain ⟨_,_,_,hl1,hl2⟩:=hv.form
 have hxl:vs.length ≤ 9223372036854775807:=by omega
 have H:=Lib.hid h
 have HV:=Lib.hid hv
 have HS:=Lib.hid hs
 clear h hv hs hl1 hl2
 go_enter Tryz.func249,Tryz.ntmps249
 go_wp2_with fail
 go_loopw [9] (fun i wr => ∃ k:Nat,k ≤ vs.length∧i = .int .i64 k∧Hid (wr = w)∧Hid (∀ y ∈ vs.take k,y ∈ L)) (fun i _ => vs.length - (intOf i).toNat)
 case atStart => exact ⟨0,Nat.zero_le _,rfl,Lib.hid rfl,Lib.hid (fun y hy => by simp at hy)⟩
 case round =>
  obtain ⟨k,hk,rfl,hw,hA⟩:=hrel
  by_cases hlt:k < vs.length
  ·have hltI:(k:Int) < vs.length:=by omega
   have e0:(0:Int) ≤ k∧(k:Int) < vs.length:=by omega
   obtain ⟨b',off,rfl,y0⟩:=nm_at HV.out hlt
   rw [← hw.out] at y0
   have hmem:=Lib.hid (List.getElem_mem hlt)
   have HT:=Lib.hid (fun hx => allIn_take hlt hA.out hx)
   have HC:=Lib.hid (hasF_any vs[k] wr (by rw [hw.out];exact H.out) (HS.out _ hmem.out))
   generalize vs[k] = v at *
   by_cases e:v ∈ L
   ·rw [decide_eq_true e] at HC
    have HA:=Lib.hid (HT.out e)
    clear HT e
    go_wp2_with fail
    refine HC.out.mono ?_
    rintro e w3 ⟨rfl,hw3⟩
    have hw4:=Lib.hid (hw3.trans hw.out)
    clear hw3
    go_wp2
    go_roundw
    case rel => exact ⟨k + 1,by omega,by go_num,hw4,HA⟩
    case measure => simp [intOf] <;> omega
   ·rw [decide_eq_false e] at HC
    obtain rfl:b = false:=by
     rw [← hb.out]
     exact List.all_eq_false.2 ⟨v,hmem.out,by simpa using e⟩
    clear HT e
    go_wp2_with fail
    refine HC.out.mono ?_
    rintro e w3 ⟨rfl,hw3⟩
    have hw4:=Lib.hid (hw3.trans hw.out)
    clear hw3
    go_wp2
    go_ret
    exact ⟨rfl,hw4.out⟩
  ·obtain rfl:k = vs.length:=by omega
   rw [List.take_length] at hA
   obtain rfl:b = true:=by
    rw [← hb.out]
    exact List.all_eq_true.2 fun x hx => by simpa using hA.out x hx
   go_wp2
   go_ret
   exact ⟨rfl,hw.out⟩
set_option maxHeartbeats 2000000 in
set_option maxRecDepth 100000 in
theorem addF_any {B fb mb M:Nat} {L:List ByteArray} {lv:Value} (A:Option Addr) (c:Nat) (vs:List ByteArray) (w:World) (h:FdSt B w fb mb L lv) (hB:B ≤ w.heap.size) (hv:SlRep 1 M RNm w (.slice A vs.length c) vs) (hM:M ≤ 9223372036854775807) (hs:∀ v ∈ vs,v.size ≤ 140737488351232)
    (hsep:∀ a,A = some a→¬ ffoot fb mb lv a.block) (hL:L.length + vs.length ≤ 10000000000) :
    Calls Tryz.prog 271 #[.pointer (some ⟨fb,0,none⟩),.slice A vs.length c] w fun e w' => (∃ u,e = .returned u)∧∃ lv',FdSt B w' fb mb (vs.foldl addF L) lv'∧Only (fun k => ffoot fb mb lv k∨w.heap.size ≤ k) w w'∧(∀ k,lv'.ownBlock = some k→lv.ownBlock = some k∨w.heap.size ≤ k):=by
 obtain ⟨_,_,_,hl1,hl2⟩:=hv.form
 have hxl:vs.length ≤ 9223372036854775807:=by omega
 have H:=Lib.hid h
 have HV:=Lib.hid hv
 have HS:=Lib.hid hs
 have HP:=Lib.hid hsep
 have HN:=Lib.hid hL
 have HB:=Lib.hid hB
 clear h hv hs hl1 hl2 hsep hL hB
 go_enter Tryz.func271,Tryz.ntmps271
 go_wp2_with fail
 go_loopw [8] (fun i wr => ∃ k:Nat,k ≤ vs.length∧i = .int .i64 k∧Hid (∃ lv',FdSt B wr fb mb ((vs.take k).foldl addF L) lv'∧Only (fun k => ffoot fb mb lv k∨w.heap.size ≤ k) w wr∧(∀ k,lv'.ownBlock = some k→lv.ownBlock = some k∨w.heap.size ≤ k))) (fun i _ => vs.length - (intOf i).toNat)
 case atStart => exact ⟨0,Nat.zero_le _,rfl,Lib.hid ⟨lv,H.out,Only.refl _,fun k hk => .inl hk⟩⟩
 case round =>
  obtain ⟨k,hk,rfl,hI⟩:=hrel
  by_cases hlt:k < vs.length
  ·have hltI:(k:Int) < vs.length:=by omega
   have e0:(0:Int) ≤ k∧(k:Int) < vs.length:=by omega
   obtain ⟨lv1,h1,hO,hq⟩:=hI.out
   obtain ⟨b',off,rfl,y0⟩:=nm_at HV.out hlt
   have hbl:=lt_of_cell y0
   replace y0:=hO.cell y0 (by
    rintro (h9 | h9)
    ·exact HP.out _ rfl h9
    ·have h9:w.heap.size ≤ b':=h9
     have hbl:b' < w.heap.size:=hbl
     omega)
   have hnx:=Lib.hid (show (vs.take (k + 1)).foldl addF L = addF ((vs.take k).foldl addF L) vs[k] by rw [List.take_succ_eq_append_getElem hlt,List.foldl_append];rfl)
   have hlen:=foldF_len (vs.take k) L
   rw [List.length_take] at hlen
   have hvs:=HS.out _ (List.getElem_mem hlt)
   have HC:=Lib.hid (hasF_any vs[k] wr h1 hvs)
   generalize vs[k] = v at *
   have hN:=HN.out
   have hlen2:((vs.take k).foldl addF L).length ≤ 10000000000:=by omega
   clear hlen hN hbl hI
   obtain ⟨L1,hL1⟩:∃ L1,(vs.take k).foldl addF L = L1:=⟨_,rfl⟩
   rw [hL1] at h1 hnx HC hlen2
   clear hL1
   by_cases e:v ∈ L1
   ·rw [decide_eq_true e] at HC
    have HA:=Lib.hid (show ∃ lv',FdSt B wr fb mb ((vs.take (k + 1)).foldl addF L) lv'∧Only (fun k => ffoot fb mb lv k∨w.heap.size ≤ k) w wr∧(∀ k,lv'.ownBlock = some k→lv.ownBlock = some k∨w.heap.size ≤ k) from ⟨lv1,by rw [hnx.out];unfold addF;rw [if_pos e];exact h1,hO,hq⟩)
    clear e h1 hO hq hlen2 hvs
    obtain ⟨wo,hwo⟩:∃ x,x = wr:=⟨_,rfl⟩
    go_wp2_with fail
    refine HC.out.mono ?_
    rintro e w3 ⟨rfl,hw3⟩
    rw [← hw3] at HA
    clear hw3 hwo HC y0
    go_wp2
    go_roundw
    case rel => exact ⟨k + 1,by omega,by go_num,HA⟩
    case measure => simp [intOf] <;> omega
   ·rw [decide_eq_false e] at HC
    have hnk:∀ q ∈ numE 0 L1,q.1 ≠ v:=fun q hq e' => e (by
     have h9:q.1 ∈ (numE 0 L1).map (·.1):=List.mem_map.2 ⟨q,hq,rfl⟩
     rw [numE_keys,e'] at h9;exact h9)
    have HNK:=Lib.hid hnk
    have HE:=Lib.hid e
    have hN9:=Lib.hid hlen2
    have hvs9:=Lib.hid hvs
    have HO:=Lib.hid hO
    have HQ:=Lib.hid hq
    have H1:=Lib.hid h1
    have hA1:=Lib.hid (show addF L1 v = L1 ++ [v] by unfold addF;rw [if_neg e])
    clear e hnk hlen2 hvs hO hq h1
    go_wp2_with fail
    refine HC.out.mono ?_
    rintro e w3 ⟨rfl,hw3⟩
    rw [← hw3] at H1 HO
    clear hw3 HC y0
    have y3:=cell_at H1.out.cell 0 _ rfl
    have hBw:=HO.out.size
    have hB9:=HB.out
    go_wp2_with (first | (at_builtin;refine wpList_append_LB (R:=RNm) (B:=B) (M:=1) (xs:=L1) (ys:=[v]) (e:=9) (by go_simp) _ _ tVl' rfl Tryz.underlying76 (.string ⟨#[]⟩) 16 infoNm rfl (by decide) RNm.one RNm.keeps rfl rfl (H1.out.list.fut RNm.stays (Fut.alloc _ _)) (nmOne _ _ _) ?l3 ?l4 ?b3 ?k3))
    case l3 => have:=hN9.out;simp [maxLen];omega
    case l4 => have:=hN9.out;simp;omega
    case b3 => simp;omega
    case k3 =>
    intro v' w' o' g' sn'
    have F0:=Fut.alloc w3 (.cells #[.string v] 9)
    obtain ⟨c1,c2,m2,c3,c4,O2,hK⟩:=(H1.out.fut F0).grow o' g' sn' hvs9.out
    obtain ⟨A8,c8,rfl,hc8,_⟩:=o'.rep.form
    rw [List.length_append,List.length_singleton] at hc8 c3 c4 m2 hK O2 ⊢
    obtain ⟨w5,hw5⟩:∃ W,w'.setCell ⟨fb,0,none⟩ (.slice A8 (L1.length + 1) c8) = W:=⟨_,rfl⟩
    rw [hw5] at c3 c4 m2 hK O2
    replace hK:=Lib.hid hK
    have o8:∀ k,(Value.slice A8 (L1.length + 1) c8).ownBlock = some k→lv.ownBlock = some k∨w.heap.size ≤ k:=fun k hk => by
     rcases sn' with e | e
     ·refine HQ.out k ?_
      rw [← e,List.length_append,List.length_singleton];exact hk
     ·right
      have h9:=e k (by rw [List.length_append,List.length_singleton];exact hk)
      have:=F0.size
      omega
    have OA:Only (fun k => ffoot fb mb lv k∨w.heap.size ≤ k) w w5:=(HO.out.trans (Only.fut F0)).trans (O2.mono fun k _ hk => by
     rcases hk with hk | hk | hk
     ·exact .inl (.inl hk)
     ·exact .inl (.inr (.inl hk))
     ·rcases HQ.out k hk with h9 | h9
      ·exact .inl (.inr (.inr h9))
      ·exact .inr h9)
    replace OA:=Lib.hid OA
    replace o8:=Lib.hid o8
    clear O2 F0 HO
    have hi2:=infoNms
    go_wp2_with (first | (refine wpList_store_1 (wanted_none rfl _) _ _ rfl rfl rfl hi2 rfl c1 c2 hw5 ?_))
    clear hw5 c1 c2 g' sn' o' y3
    refine wp_graph 10 [.d,.d,.d,.d,.d,.d,.d,.d,.d,.d] (by kernel_rfl) (by kernel_rfl) (by kernel_rfl) ?_
    simp only [takS,Exs]
    iterate 10 apply Exists.intro
    apply Run.valG (wanted_none rfl _)
    ·intro w1 h1 hk
     go_simp;rfl
    simp only [actS]
    apply Run.valG (wanted_none rfl _)
    ·intro w1 h1 hk
     have q1:=h1.cell c3;have q2:=h1.cell c4
     have hcw:=fun b o => Below.cell (p:=⟨b,o,none⟩) h1
     go_simp;rfl
    simp only [actS]
    apply Run.valG (wanted_none rfl _)
    ·intro w1 h1 hk
     go_simp;rfl
    simp only [actS]
    apply Run.valG (wanted_none rfl _)
    ·intro w1 h1 hk
     have q1:=h1.cell c3;have q2:=h1.cell c4
     have hcw:=fun b o => Below.cell (p:=⟨b,o,none⟩) h1
     go_simp;rfl
    simp only [actS]
    iterate 2
     apply Run.valG (wanted_none rfl _)
     ·intro w1 h1 hk
      go_simp;rfl
     simp only [actS]
    apply Run.valG (wanted_none rfl _)
    ·intro w1 h1 hk
     have q1:=h1.cell c3;have q2:=h1.cell c4
     have hcw:=fun b o => Below.cell (p:=⟨b,o,none⟩) h1
     go_simp;rfl
    simp only [actS]
    apply Run.valG (wanted_none rfl _)
    ·intro w1 h1 hk
     go_simp;rfl
    simp only [actS]
    iterate 2
     apply Run.valG (wanted_none rfl _)
     ·intro w1 h1 hk
      have q1:=h1.cell c3;have q2:=h1.cell c4
      have hcw:=fun b o => Below.cell (p:=⟨b,o,none⟩) h1
      go_simp;rfl
     simp only [actS]
    apply Run.done
    intro w2 h2 hk
    clear hk
    have F5:=(Fut.drew _).trans h2
    have hOK2:=H1.out.ok
    refine wpList_mapNum (wanted_none rfl _) _ _ _ rfl rfl rfl rfl (m2.fut F5) hOK2 (Nat.le_trans hvs9.out (by unfold maxLen;omega)) HNK.out ?_
    intro w6 m6 g6
    replace m6:MapE strV w6 mb (numE 0 (L1 ++ [v])):=by rw [numE_snoc,show ((0 + L1.length + 1:Nat):Int) = (L1.length:Int) + 1 by omega];exact m6
    have HV':=hK.out w2 w6 F5 m6 g6
    have O6:Only (fun k => ffoot fb mb lv k∨w.heap.size ≤ k) w w6:=OA.out.trans ((Only.fut F5).trans (Only.grown g6 fun k hk => by injection hk with hk;exact .inl (.inr (.inl hk.symm))))
    have HA:=Lib.hid (show ∃ lv',FdSt B w6 fb mb ((vs.take (k + 1)).foldl addF L) lv'∧Only (fun k => ffoot fb mb lv k∨w.heap.size ≤ k) w w6∧(∀ k,lv'.ownBlock = some k→lv.ownBlock = some k∨w.heap.size ≤ k) from ⟨_,by rw [hnx.out,hA1.out];exact HV',O6,o8.out⟩)
    clear HV' O6 m6 g6 F5 hOK2 m2 c3 c4
    go_wp2
    go_roundw
    case rel => exact ⟨k + 1,by omega,by go_num,HA⟩
    case measure => simp [intOf] <;> omega
  ·obtain rfl:k = vs.length:=by omega
   rw [List.take_length] at hI
   go_wp2
   go_end0
   exact ⟨⟨_,rfl⟩,hI.out⟩
set_option maxHeartbeats 1000000 in
theorem loneT_any (x:Ex) (A:Option Addr) (c:Nat) (w:World):Calls Tryz.prog 273 #[.agg (x.cs (.slice A x.kids.length c)).toArray] w fun e w' => e = .returned (.string x.lone)∧Fut w w':=by
 obtain ⟨s,hs⟩:∃ s,x.lone = s:=⟨_,rfl⟩
 rw [hs]
 unfold Ex.lone at hs
 unfold Ex.cs
 generalize x.kids.length = n at *
 generalize x.op = o at *
 generalize x.t = t at *
 have f0:=Fut.alloc w (.cells #[.int .i8 o,.string t.v,.int .i8 t.x.k,.int .i64 t.x.n,.string t.x.s,.slice A n c] 118)
 by_cases h1:o = 0
 rotate_left
 ·rw [if_neg (fun h => h1 h.1)] at hs
  subst hs
  go_enter Tryz.func273,Tryz.ntmps273
  go_wp2
  go_ret
  exact ⟨rfl,f0⟩
 subst h1
 by_cases h2:n = 0
 rotate_left
 ·rw [if_neg (fun h => h2 h.2.1)] at hs
  subst hs
  have h3:(n:Int) > 0:=by omega
  have h4:0 < n:=by omega
  go_enter Tryz.func273,Tryz.ntmps273
  go_wp2
  go_ret
  exact ⟨rfl,f0⟩
 subst h2
 by_cases h5:t.v.toList = [95]
 ·rw [if_neg (fun h => h.2.2 h5)] at hs
  subst hs
  go_enter Tryz.func273,Tryz.ntmps273
  go_wp2
  go_ret
  exact ⟨rfl,f0⟩
 ·rw [if_pos ⟨rfl,rfl,h5⟩] at hs
  subst hs
  have h6:(t.v.toList == [95]) = false:=by rw [beq_eq_false_iff_ne];exact h5
  go_enter Tryz.func273,Tryz.ntmps273
  go_wp2
  go_ret
  exact ⟨rfl,f0⟩
def Eqn.byL (q:Eqn) (L:List ByteArray):Prop:=q.l.toList ≠ []∧q.l ∉ L∧allIn L q.rs = true
def Eqn.byR (q:Eqn) (L:List ByteArray):Prop:=q.r.toList ≠ []∧q.r ∉ L∧allIn L q.ls = true
theorem Eqn.takes_l {q:Eqn} {L:List ByteArray} (h:q.byL L):q.takes L = (true,L ++ [q.l]):=if_pos h
theorem Eqn.takes_r {q:Eqn} {L:List ByteArray} (h:¬ q.byL L) (h':q.byR L):q.takes L = (true,L ++ [q.r]):=by
 unfold Eqn.takes
 exact (if_neg h).trans (if_pos h')
theorem Eqn.takes_no {q:Eqn} {L:List ByteArray} (h:¬ q.byL L) (h':¬ q.byR L):q.takes L = (false,L):=by
 unfold Eqn.takes
 exact (if_neg h).trans (if_neg h')
theorem addF1 {L:List ByteArray} {v:ByteArray} (h:v ∉ L):[v].foldl addF L = L ++ [v]:=if_neg h
theorem by3 {a:Prop} [Decidable a] {d1 d3:Bool} (h:¬ (a∧d1 = false∧d3 = true)):¬ a∨(a∧d1 = true)∨(a∧d1 = false∧d3 = false):=by
 by_cases ha:a <;> cases d1 <;> cases d3 <;> simp_all
set_option maxHeartbeats 4000000 in
set_option maxRecDepth 100000 in
theorem takeF_any {B fb mb M:Nat} {L:List ByteArray} {lv:Value} (q:Eqn) (Al Ar:Option Addr) (cl cr:Nat) (w:World) (h:FdSt B w fb mb L lv) (hB:B ≤ w.heap.size) (hls:SlRep 1 M RNm w (.slice Al q.ls.length cl) q.ls) (hrs:SlRep 1 M RNm w (.slice Ar q.rs.length cr) q.rs) (hM:M ≤ 9223372036854775807)
    (s1:q.l.size ≤ 140737488351232) (s2:q.r.size ≤ 140737488351232) (s3:∀ v ∈ q.ls,v.size ≤ 140737488351232) (s4:∀ v ∈ q.rs,v.size ≤ 140737488351232) (hL:L.length ≤ 1000000000) :
    Calls Tryz.prog 276 #[.pointer (some ⟨fb,0,none⟩),.agg #[.string q.l,.string q.r,.slice Al q.ls.length cl,.slice Ar q.rs.length cr]] w fun e w' => e = .returned (.bool (q.takes L).1)∧∃ lv',FdSt B w' fb mb (q.takes L).2 lv'∧Only (fun k => ffoot fb mb lv k∨w.heap.size ≤ k) w w'∧(∀ k,lv'.ownBlock = some k→lv.ownBlock = some k∨w.heap.size ≤ k):=by
 obtain ⟨w1,hw1⟩:∃ W,w.alloc (.cells #[.string q.l,.string q.r,.slice Al q.ls.length cl,.slice Ar q.rs.length cr] 381) = W:=⟨_,rfl⟩
 have f0:=Fut.alloc w (.cells #[.string q.l,.string q.r,.slice Al q.ls.length cl,.slice Ar q.rs.length cr] 381)
 rw [hw1] at f0
 have h1:=h.fut f0
 have HasL:=Lib.hid (hasF_any q.l w1 h1 s1)
 have HasR:=Lib.hid (hasF_any q.r w1 h1 s2)
 have AllL:=Lib.hid (allF_any Al cl q.ls w1 h1 (hls.fut RNm.stays f0) hM s3)
 have AllR:=Lib.hid (allF_any Ar cr q.rs w1 h1 (hrs.fut RNm.stays f0) hM s4)
 have hlow:=fun k (hk:ffoot fb mb lv k) => show k < w.heap.size from by
  rcases hk with rfl | rfl | hk
  ·exact (Array.getElem?_eq_some_iff.1 h.cell).1
  ·exact h.map.lt
  ·exact (h.list.block _ hk).2
 have hf0:=f0.size
 have Add:=fun (v:ByteArray) (hv:v.size ≤ 140737488351232) => addF_any (M:=1) (some ⟨w1.heap.size,0,none⟩) 1 [v] (w1.alloc (.cells #[.string v] 9)) (h1.fut (Fut.alloc _ _)) (by rw [show ∀ o,(w1.alloc o).heap.size = w1.heap.size + 1 from fun o => by simp];omega) (nmOne w1 v 9) (by decide) (fun x hx => by rw [List.mem_singleton] at hx;subst hx;exact hv) (fun a ha => by
  injection ha with ha
  subst ha
  intro h9
  have h10:w1.heap.size < w.heap.size:=hlow _ h9
  omega) (by rw [List.length_singleton];omega)
 have fin:∀ (v:ByteArray) (w':World) (lv':Value),v ∉ L→FdSt B w' fb mb ([v].foldl addF L) lv'→Only (fun k => ffoot fb mb lv k∨(w1.alloc (.cells #[.string v] 9)).heap.size ≤ k) (w1.alloc (.cells #[.string v] 9)) w'→(∀ k,lv'.ownBlock = some k→lv.ownBlock = some k∨(w1.alloc (.cells #[.string v] 9)).heap.size ≤ k) →
     FdSt B w' fb mb (L ++ [v]) lv'∧Only (fun k => ffoot fb mb lv k∨w.heap.size ≤ k) w w'∧(∀ k,lv'.ownBlock = some k→lv.ownBlock = some k∨w.heap.size ≤ k):=fun v w' lv' hv g1 g2 g3 => by
  have hsz:w.heap.size ≤ (w1.alloc (.cells #[.string v] 9)).heap.size:=by rw [show ∀ o,(w1.alloc o).heap.size = w1.heap.size + 1 from fun o => by simp];omega
  refine ⟨by rw [← addF1 hv];exact g1,(Only.fut (f0.trans (Fut.alloc _ _))).trans (g2.mono fun k _ hk => ?_),fun k hk => ?_⟩
  ·rcases hk with hk | hk
   ·exact .inl hk
   ·exact .inr (by omega)
  ·rcases g3 k hk with hk | hk
   ·exact .inl hk
   ·exact .inr (by omega)
 have none9:FdSt B w1 fb mb L lv∧Only (fun k => ffoot fb mb lv k∨w.heap.size ≤ k) w w1∧(∀ k,lv.ownBlock = some k→lv.ownBlock = some k∨w.heap.size ≤ k):=⟨h1,Only.fut f0,fun k hk => .inl hk⟩
 replace fin:=Lib.hid fin
 replace none9:=Lib.hid none9
 replace Add:=Lib.hid Add
 clear h1 h hls hrs hlow hf0 f0 hL hB
 have hb0:=heap_alloc_new w (.cells #[.string q.l,.string q.r,.slice Al q.ls.length cl,.slice Ar q.rs.length cr] 381)
 rw [hw1] at hb0
 have y0:=cell_at hb0 0 (.string q.l) rfl
 have y1:=cell_at hb0 1 (.string q.r) rfl
 have y2:=cell_at hb0 2 (.slice Al q.ls.length cl) rfl
 have y3:=cell_at hb0 3 (.slice Ar q.rs.length cr) rfl
 clear hb0
 have TL:=@Eqn.takes_l q L
 have TR:=@Eqn.takes_r q L
 have TN:=@Eqn.takes_no q L
 simp only [Eqn.byL,Eqn.byR] at TL TR TN
 obtain ⟨rr,hrr⟩:∃ r,q.takes L = r:=⟨_,rfl⟩
 rw [hrr] at TL TR TN ⊢
 clear hrr
 obtain ⟨ql,qr,qls,qrs⟩:=q
 dsimp only at *
 obtain ⟨d1,hd1⟩:∃ d,decide (ql ∈ L) = d:=⟨_,rfl⟩
 obtain ⟨d2,hd2⟩:∃ d,decide (qr ∈ L) = d:=⟨_,rfl⟩
 rw [hd1] at HasL
 rw [hd2] at HasR
 have hm1:ql ∉ L↔d1 = false:=by rw [← hd1];simp
 have hm2:qr ∉ L↔d2 = false:=by rw [← hd2];simp
 have HA1:=Lib.hid (Add.out ql s1)
 have HA2:=Lib.hid (Add.out qr s2)
 have fin1:=Lib.hid (fin.out ql)
 have fin2:=Lib.hid (fin.out qr)
 rw [hm1] at TL TR TN fin1
 rw [hm2] at TR TN fin2
 rw [List.length_singleton] at HA1 HA2
 clear hd1 hd2 hm1 hm2 Add fin
 generalize allIn L qls = d4 at *
 generalize allIn L qrs = d3 at *
 generalize qls.length = nl at *
 generalize qrs.length = nr at *
 by_cases hQ:ql.toList ≠ []∧d1 = false∧d3 = true
 ·obtain rfl:=TL hQ
  obtain ⟨e1,rfl,rfl⟩:=hQ
  have e1b:(ql.toList == []) = false:=by rw [beq_eq_false_iff_ne];exact e1
  clear TL TR TN
  go_enter Tryz.func276,Tryz.ntmps276
  go_wp2_with fail
  refine HasL.out.mono ?_
  rintro e w3 ⟨rfl,rfl⟩
  go_wp2_with fail
  refine AllR.out.mono ?_
  rintro e w3 ⟨rfl,rfl⟩
  go_wp2_with fail
  refine HA1.out.mono ?_
  rintro e w3 ⟨⟨u,rfl⟩,lv',g1,g2,g3⟩
  have HF:=Lib.hid (fin1.out w3 lv' trivial g1 g2 g3)
  clear g1 g2 g3
  go_wp2
  go_ret
  exact ⟨rfl,lv',HF.out⟩
 replace TR:=TR hQ
 replace TN:=TN hQ
 have hQ3:=by3 hQ
 clear hQ TL
 by_cases hR:qr.toList ≠ []∧d2 = false∧d4 = true
 ·obtain rfl:=TR hR
  obtain ⟨e1,rfl,rfl⟩:=hR
  have e1b:(qr.toList == []) = false:=by rw [beq_eq_false_iff_ne];exact e1
  clear TR TN
  rcases hQ3 with hq | ⟨hq,rfl⟩ | ⟨hq,rfl,rfl⟩
  ·replace hq:=Decidable.not_not.1 hq
   go_enter Tryz.func276,Tryz.ntmps276
   go_wp2_with fail
   refine HasR.out.mono ?_
   rintro e w3 ⟨rfl,rfl⟩
   go_wp2_with fail
   refine AllL.out.mono ?_
   rintro e w3 ⟨rfl,rfl⟩
   go_wp2_with fail
   refine HA2.out.mono ?_
   rintro e w3 ⟨⟨u,rfl⟩,lv',g1,g2,g3⟩
   have HF:=Lib.hid (fin2.out w3 lv' trivial g1 g2 g3)
   clear g1 g2 g3
   go_wp2
   go_ret
   exact ⟨rfl,lv',HF.out⟩
  ·have e2b:(ql.toList == []) = false:=by rw [beq_eq_false_iff_ne];exact hq
   go_enter Tryz.func276,Tryz.ntmps276
   go_wp2_with fail
   refine HasL.out.mono ?_
   rintro e w3 ⟨rfl,rfl⟩
   go_wp2_with fail
   refine HasR.out.mono ?_
   rintro e w3 ⟨rfl,rfl⟩
   go_wp2_with fail
   refine AllL.out.mono ?_
   rintro e w3 ⟨rfl,rfl⟩
   go_wp2_with fail
   refine HA2.out.mono ?_
   rintro e w3 ⟨⟨u,rfl⟩,lv',g1,g2,g3⟩
   have HF:=Lib.hid (fin2.out w3 lv' trivial g1 g2 g3)
   clear g1 g2 g3
   go_wp2
   go_ret
   exact ⟨rfl,lv',HF.out⟩
  ·have e2b:(ql.toList == []) = false:=by rw [beq_eq_false_iff_ne];exact hq
   go_enter Tryz.func276,Tryz.ntmps276
   go_wp2_with fail
   refine HasL.out.mono ?_
   rintro e w3 ⟨rfl,rfl⟩
   go_wp2_with fail
   refine AllR.out.mono ?_
   rintro e w3 ⟨rfl,rfl⟩
   go_wp2_with fail
   refine HasR.out.mono ?_
   rintro e w3 ⟨rfl,rfl⟩
   go_wp2_with fail
   refine AllL.out.mono ?_
   rintro e w3 ⟨rfl,rfl⟩
   go_wp2_with fail
   refine HA2.out.mono ?_
   rintro e w3 ⟨⟨u,rfl⟩,lv',g1,g2,g3⟩
   have HF:=Lib.hid (fin2.out w3 lv' trivial g1 g2 g3)
   clear g1 g2 g3
   go_wp2
   go_ret
   exact ⟨rfl,lv',HF.out⟩
 obtain rfl:=TN hR
 have hR3:=by3 hR
 clear hR TR TN HA1 HA2 fin1 fin2
 rcases hQ3 with hq | ⟨hq,rfl⟩ | ⟨hq,rfl,rfl⟩ <;> rcases hR3 with hr | ⟨hr,rfl⟩ | ⟨hr,rfl,rfl⟩
 ·replace hq:=Decidable.not_not.1 hq
  replace hr:=Decidable.not_not.1 hr
  go_enter Tryz.func276,Tryz.ntmps276
  go_wp2
  go_ret
  exact ⟨rfl,lv,none9.out⟩
 ·replace hq:=Decidable.not_not.1 hq
  have e2b:(qr.toList == []) = false:=by rw [beq_eq_false_iff_ne];exact hr
  go_enter Tryz.func276,Tryz.ntmps276
  go_wp2_with fail
  refine HasR.out.mono ?_
  rintro e w3 ⟨rfl,rfl⟩
  go_wp2
  go_ret
  exact ⟨rfl,lv,none9.out⟩
 ·replace hq:=Decidable.not_not.1 hq
  have e2b:(qr.toList == []) = false:=by rw [beq_eq_false_iff_ne];exact hr
  go_enter Tryz.func276,Tryz.ntmps276
  go_wp2_with fail
  refine HasR.out.mono ?_
  rintro e w3 ⟨rfl,rfl⟩
  go_wp2_with fail
  refine AllL.out.mono ?_
  rintro e w3 ⟨rfl,rfl⟩
  go_wp2
  go_ret
  exact ⟨rfl,lv,none9.out⟩
 ·have e1b:(ql.toList == []) = false:=by rw [beq_eq_false_iff_ne];exact hq
  replace hr:=Decidable.not_not.1 hr
  go_enter Tryz.func276,Tryz.ntmps276
  go_wp2_with fail
  refine HasL.out.mono ?_
  rintro e w3 ⟨rfl,rfl⟩
  go_wp2
  go_ret
  exact ⟨rfl,lv,none9.out⟩
 ·have e1b:(ql.toList == []) = false:=by rw [beq_eq_false_iff_ne];exact hq
  have e2b:(qr.toList == []) = false:=by rw [beq_eq_false_iff_ne];exact hr
  go_enter Tryz.func276,Tryz.ntmps276
  go_wp2_with fail
  refine HasL.out.mono ?_
  rintro e w3 ⟨rfl,rfl⟩
  go_wp2_with fail
  refine HasR.out.mono ?_
  rintro e w3 ⟨rfl,rfl⟩
  go_wp2
  go_ret
  exact ⟨rfl,lv,none9.out⟩
 ·have e1b:(ql.toList == []) = false:=by rw [beq_eq_false_iff_ne];exact hq
  have e2b:(qr.toList == []) = false:=by rw [beq_eq_false_iff_ne];exact hr
  go_enter Tryz.func276,Tryz.ntmps276
  go_wp2_with fail
  refine HasL.out.mono ?_
  rintro e w3 ⟨rfl,rfl⟩
  go_wp2_with fail
  refine HasR.out.mono ?_
  rintro e w3 ⟨rfl,rfl⟩
  go_wp2_with fail
  refine AllL.out.mono ?_
  rintro e w3 ⟨rfl,rfl⟩
  go_wp2
  go_ret
  exact ⟨rfl,lv,none9.out⟩
 ·have e1b:(ql.toList == []) = false:=by rw [beq_eq_false_iff_ne];exact hq
  replace hr:=Decidable.not_not.1 hr
  go_enter Tryz.func276,Tryz.ntmps276
  go_wp2_with fail
  refine HasL.out.mono ?_
  rintro e w3 ⟨rfl,rfl⟩
  go_wp2_with fail
  refine AllR.out.mono ?_
  rintro e w3 ⟨rfl,rfl⟩
  go_wp2
  go_ret
  exact ⟨rfl,lv,none9.out⟩
 ·have e1b:(ql.toList == []) = false:=by rw [beq_eq_false_iff_ne];exact hq
  have e2b:(qr.toList == []) = false:=by rw [beq_eq_false_iff_ne];exact hr
  go_enter Tryz.func276,Tryz.ntmps276
  go_wp2_with fail
  refine HasL.out.mono ?_
  rintro e w3 ⟨rfl,rfl⟩
  go_wp2_with fail
  refine AllR.out.mono ?_
  rintro e w3 ⟨rfl,rfl⟩
  go_wp2_with fail
  refine HasR.out.mono ?_
  rintro e w3 ⟨rfl,rfl⟩
  go_wp2
  go_ret
  exact ⟨rfl,lv,none9.out⟩
 ·have e1b:(ql.toList == []) = false:=by rw [beq_eq_false_iff_ne];exact hq
  have e2b:(qr.toList == []) = false:=by rw [beq_eq_false_iff_ne];exact hr
  go_enter Tryz.func276,Tryz.ntmps276
  go_wp2_with fail
  refine HasL.out.mono ?_
  rintro e w3 ⟨rfl,rfl⟩
  go_wp2_with fail
  refine AllR.out.mono ?_
  rintro e w3 ⟨rfl,rfl⟩
  go_wp2_with fail
  refine HasR.out.mono ?_
  rintro e w3 ⟨rfl,rfl⟩
  go_wp2_with fail
  refine AllL.out.mono ?_
  rintro e w3 ⟨rfl,rfl⟩
  go_wp2
  go_ret
  exact ⟨rfl,lv,none9.out⟩
end Go.Proofs.YtobabnpllokkaaaGreatDoor
