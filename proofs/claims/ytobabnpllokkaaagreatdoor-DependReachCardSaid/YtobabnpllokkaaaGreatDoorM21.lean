/- Parts. -/
import Derived.Test.YtobabnpllokkaaaGreatDoorM20
import Derived.Test.YtobabnpllokkaaaGreatDoorM09
import Derived.Test.YtobabnpllokkaaaGreatDoorM11
set_option linter.unusedSimpArgs false
set_option linter.unusedVariables false
namespace Go.Proofs.YtobabnpllokkaaaGreatDoor
open Go.RowKit
set_option maxHeartbeats 1600000 in
set_option maxRecDepth 100000 in
theorem rin_any {M:Nat} (s:ByteArray) (A:Option Addr) (c:Nat) (L:List ByteArray) (w:World) (h:SlRep 1 M RNm w (.slice A L.length c) L) (hM:M ≤ 9223372036854775807) :
    Calls Tryz.prog 262 #[.string s,.slice A L.length c] w fun e w' => e = .returned (.bool (decide (s ∈ L)))∧w' = w:=by
 have H:=Lib.hid h
 obtain ⟨_,_,hv,hl1,hl2⟩:=h.form
 have hxl:L.length ≤ 9223372036854775807:=by omega
 obtain ⟨b,hb⟩:∃ b,decide (s ∈ L) = b:=⟨_,rfl⟩
 rw [hb]
 replace hb:=Lib.hid hb
 clear h hv hl1 hl2
 go_enter Tryz.func262,Tryz.ntmps262
 go_wp2_with fail
 go_loopw [5] (fun i wr => ∃ k:Nat,k ≤ L.length∧i = .int .i64 k∧Hid (wr = w)∧Hid (∀ x ∈ L.take k,x ≠ s)) (fun i _ => L.length - (intOf i).toNat)
 case atStart => exact ⟨0,Nat.zero_le _,rfl,Lib.hid rfl,Lib.hid (fun x hx => by simp at hx)⟩
 case round =>
  obtain ⟨k,hk,rfl,hW,hI⟩:=hrel
  obtain rfl:=hW.out
  by_cases hlt:k < L.length
  ·have hltI:(k:Int) < L.length:=by omega
   have e0:(0:Int) ≤ k∧(k:Int) < L.length:=by omega
   obtain ⟨b',off,rfl,u0⟩:=nm_at H.out hlt
   have hnx:=Lib.hid (List.take_succ_eq_append_getElem hlt)
   have hmem:=Lib.hid (List.getElem_mem hlt)
   generalize L[k] = z at *
   by_cases hz:z = s
   ·obtain rfl:b = true:=(by rw [← hb.out];exact decide_eq_true (hz ▸ hmem.out))
    subst hz
    go_wp2
    go_ret
    exact ⟨rfl,rfl⟩
   ·have hI2:Hid (∀ x ∈ L.take (k + 1),x ≠ s):=Lib.hid fun x hx => by
      rw [hnx.out,List.mem_append] at hx
      rcases hx with hx | hx
      ·exact hI.out x hx
      ·rw [List.mem_singleton] at hx;subst hx;exact hz
    have hzb:(z.toList == s.toList) = false:=(by
     rw [beq_eq_false_iff_ne]
     intro h
     rw [ByteArray.toList_eq,ByteArray.toList_eq] at h
     exact hz (ByteArray.ext (Array.toList_inj.1 (by simpa using h))))
    go_wp2
    go_roundw
    case rel => exact ⟨k + 1,by omega,by go_num,(by first | exact Lib.hid trivial | exact Lib.hid rfl),hI2⟩
    case measure => simp [intOf] <;> omega
  ·obtain rfl:k = L.length:=by omega
   rw [List.take_length] at hI
   obtain rfl:b = false:=(by rw [← hb.out];exact decide_eq_false (fun h => hI.out s h rfl))
   go_wp2
   go_ret
   exact ⟨rfl,rfl⟩
set_option maxHeartbeats 2000000 in
set_option maxRecDepth 100000 in
theorem rvars_any {M:Nat} (A:Option Addr) (c:Nat) (ts:List Tm) (w:World) (h:SlRep 4 M RTm w (.slice A ts.length c) ts) (hM:M ≤ 9223372036854775807) (hl:ts.length ≤ 1000000000) :
    Calls Tryz.prog 263 #[.slice A ts.length c] w fun e w' => ∃ v,e = .returned v∧Nms w.heap.size w' v (tmVars ts)∧Fut w w':=by
 unfold tmVars ddVs
 have H:=Lib.hid h
 clear h
 go_enter Tryz.func263,Tryz.ntmps263
 go_wp2_with fail
 go_loopw [3,4,5] (fun u i _ wr => ∃ k:Nat,k ≤ ts.length∧i = .int .i64 k∧Hid (Nms w.heap.size wr u (((ts.take k).map (·.v)).foldl addVar []))∧Hid (Fut w wr)) (fun _ i _ _ => ts.length - (intOf i).toNat)
 case atStart => exact ⟨0,Nat.zero_le _,rfl,Lib.hid OwnL.nil,Lib.hid (Fut.refl _)⟩
 case round =>
  obtain ⟨k,hk,rfl,hI,hF⟩:=hrel
  by_cases hlt:k < ts.length
  ·have hltI:(k:Int) < ts.length:=by omega
   have e0:(0:Int) ≤ k∧(k:Int) < ts.length:=by omega
   obtain ⟨b',off,rfl,hok,u0,u1,u2,u3⟩:=tm_at (H.out.fut RTm.stays hF.out) hlt
   have hnx:=Lib.hid (show ((ts.take (k + 1)).map (·.v)).foldl addVar [] = addVar (((ts.take k).map (·.v)).foldl addVar []) (ts[k]).v by rw [List.take_succ_eq_append_getElem hlt,List.map_append,List.foldl_append];rfl)
   have hGl:=foldl_len ((ts.take k).map (·.v)) []
   obtain ⟨G,hG⟩:∃ G,((ts.take k).map (·.v)).foldl addVar [] = G:=⟨_,rfl⟩
   rw [hG] at hnx hI hGl
   rw [List.length_map,List.length_take,List.length_nil] at hGl
   replace hGl:G.length ≤ 1000000000:=(by omega)
   generalize (ts[k]).v = z at *
   clear hG u1 u2 u3 hok
   have hsz:=hF.out.size
   by_cases c1:z.toList = []
   ·have c1b:(z.toList == []) = true:=(by rw [c1];rfl)
    have HI:=Lib.hid (show Nms w.heap.size wr u3 (((ts.take (k + 1)).map (·.v)).foldl addVar []) by rw [hnx.out];unfold addVar;rw [if_pos c1];exact hI.out)
    go_wp2
    go_roundw
    case rel => exact ⟨k + 1,by omega,by go_num,HI,hF⟩
    case measure => simp [intOf] <;> omega
   ·have c1b:(z.toList == []) = false:=(by rw [beq_eq_false_iff_ne];exact c1)
    by_cases c2:z.toList = [95]
    ·have c2b:(z.toList == [95]) = true:=(by rw [c2];rfl)
     have HI:=Lib.hid (show Nms w.heap.size wr u3 (((ts.take (k + 1)).map (·.v)).foldl addVar []) by rw [hnx.out];unfold addVar;rw [if_neg c1,if_pos c2];exact hI.out)
     go_wp2
     go_roundw
     case rel => exact ⟨k + 1,by omega,by go_num,HI,hF⟩
     case measure => simp [intOf] <;> omega
    ·have c2b:(z.toList == [95]) = false:=(by rw [beq_eq_false_iff_ne];exact c2)
     obtain ⟨Au,cu,rfl,_,_⟩:=hI.out.rep.form
     have HIn:=Lib.hid (rin_any z Au cu G wr hI.out.rep (by decide))
     obtain ⟨d,hd⟩:∃ d,decide (z ∈ G) = d:=⟨_,rfl⟩
     rw [hd] at HIn
     replace hd:=Lib.hid hd
     cases d
     ·have c3:¬ z ∈ G:=of_decide_eq_false hd.out
      replace hnx:=Lib.hid (show ((ts.take (k + 1)).map (·.v)).foldl addVar [] = G ++ [z] by rw [hnx.out];unfold addVar;rw [if_neg c1,if_neg c2,if_neg c3])
      go_wp2_with fail
      refine HIn.out.mono ?_
      rintro e w3 ⟨rfl,rfl⟩
      clear HIn c3
      go_wp2_with (first | (at_builtin;refine wpList_append_LB (R:=RNm) (B:=w.heap.size) (M:=1) (xs:=G) (ys:=[z]) (e:=9) (by go_simp) _ _ tVl' rfl Tryz.underlying76 (.string ⟨#[]⟩) 16 infoNm rfl (by decide) RNm.one RNm.keeps rfl rfl (hI.out.fut RNm.stays (Fut.alloc _ _)) (nmOne _ _ _) ?l3 ?m3 ?b3 ?k3))
      case l3 => simp [maxLen];omega
      case m3 => simp;omega
      case b3 => simp;omega
      case k3 =>
      intro v' w' o' g' sn'
      have HI:=Lib.hid (show Nms w.heap.size w' v' (((ts.take (k + 1)).map (·.v)).foldl addVar []) by rw [hnx.out];exact o')
      have HF:=Lib.hid ((hF.out.trans (Fut.alloc _ _)).grown g' (fun k hk => (hI.out.block k hk).1))
      clear o' g' sn'
      go_wp2
      go_roundw
      case rel => exact ⟨k + 1,by omega,by go_num,HI,HF⟩
      case measure => simp [intOf] <;> omega
     ·have c3:z ∈ G:=of_decide_eq_true hd.out
      have HI:=Lib.hid (show Nms w.heap.size wr (.slice Au G.length cu) (((ts.take (k + 1)).map (·.v)).foldl addVar []) by rw [hnx.out];unfold addVar;rw [if_neg c1,if_neg c2,if_pos c3];exact hI.out)
      go_wp2_with fail
      refine HIn.out.mono ?_
      rintro e w3 ⟨rfl,rfl⟩
      go_wp2
      go_roundw
      case rel => exact ⟨k + 1,by omega,by go_num,HI,hF⟩
      case measure => simp [intOf] <;> omega
  ·obtain rfl:k = ts.length:=by omega
   rw [List.take_length] at hI
   go_wp2
   go_ret
   exact ⟨_,rfl,hI.out,hF.out⟩
end Go.Proofs.YtobabnpllokkaaaGreatDoor
namespace Go.Proofs.YtobabnpllokkaaaGreatDoor
open Go.RowKit
mutual
def Ex.tms:Ex→List Tm
 | .mk _ t ks => t :: Ex.tmss ks
def Ex.tmss:List Ex→List Tm
 | [] => []
 | k :: r => k.tms ++ Ex.tmss r
end
theorem tmss_flat:∀ l:List Ex,Ex.tmss l = l.flatMap Ex.tms
 | [] => rfl
 | k :: r => by rw [Ex.tmss,tmss_flat r,List.flatMap_cons]
mutual
theorem Ex.tms_vs:∀ x:Ex,x.tms.map (·.v) = x.vs
 | .mk _ t ks => by rw [Ex.tms,Ex.vs,List.map_cons,Ex.tmss_vs ks]
theorem Ex.tmss_vs:∀ l:List Ex,(Ex.tmss l).map (·.v) = Ex.vss l
 | [] => rfl
 | k :: r => by rw [Ex.tmss,Ex.vss,List.map_append,Ex.tms_vs k,Ex.tmss_vs r]
end
theorem Ex.tms_len (x:Ex):x.tms.length = x.size:=by rw [← Ex.vs_len,← Ex.tms_vs,List.length_map]
theorem tms_take {l:List Ex} {k:Nat} (hk:k < l.length):(l.take (k + 1)).flatMap Ex.tms = (l.take k).flatMap Ex.tms ++ (l[k]).tms:=by
 rw [List.take_succ_eq_append_getElem hk,List.flatMap_append];simp
theorem tms_le {l:List Ex} {k:Nat} (hk:k < l.length):((l.take k).flatMap Ex.tms).length + (l[k]).tms.length ≤ (l.flatMap Ex.tms).length:=by
 have h1:(l.flatMap Ex.tms).length = ((l.take (k + 1)).flatMap Ex.tms).length + ((l.drop (k + 1)).flatMap Ex.tms).length:=by
  rw [← List.length_append,← List.flatMap_append,List.take_append_drop]
 rw [tms_take hk,List.length_append] at h1
 omega
theorem RTm.one:∀ (w:World) cs x,RTm w cs x→∀ u ∈ cs,u.oneCell' = true:=fun w cs x h u hu => by
 obtain ⟨h,_⟩:=h
 subst h
 unfold Tm.cells at hu
 simp at hu
 rcases hu with rfl | rfl | rfl | rfl <;> rfl
theorem RTm.keeps {e:TypeId}:Keeps e RTm:=fun _ _ _ _ _ h _ _ => h
theorem tmOne (w:World) (t:Tm) (ht:t.ok) (e:TypeId):SlRep 4 1 RTm (w.alloc (.cells #[.string t.v,.int .i8 t.x.k,.int .i64 t.x.n,.string t.x.s] e)) (.slice (some ⟨w.heap.size,0,none⟩) 1 1) [t] :=
 ⟨_,1,rfl,Nat.le_refl _,Nat.le_refl _,fun i y hy => by
  have hi:i = 0:=by
   have:=(List.getElem?_eq_some_iff.1 hy).1
   simp at this;omega
  subst hi
  obtain rfl:t = y:=by simpa using hy
  refine ⟨w.heap.size,0,t.cells,rfl,rfl,fun j c hc => ?_,rfl,ht⟩
  have hb:=heap_alloc_new w (.cells #[.string t.v,.int .i8 t.x.k,.int .i64 t.x.n,.string t.x.s] e)
  have:=cell_at hb j c (by simpa [Tm.cells] using hc)
  simpa using this⟩
def TmsAt (w0 W W':World) (lv v:Value) (L:List Tm):Prop :=
 OwnL 4 w0.heap.size 115 RTm W' v L∧Only (fun k => lv.ownBlock = some k∨W.heap.size ≤ k) W W'∧∀ k,v.ownBlock = some k→lv.ownBlock = some k∨W.heap.size ≤ k
theorem TmsAt.trans {w0 W W1 W2:World} {lv v1 v2:Value} {L1 L2:List Tm} (h:TmsAt w0 W W1 lv v1 L1) (k:TmsAt w0 W1 W2 v1 v2 L2):TmsAt w0 W W2 lv v2 L2:=by
 have hs:=h.2.1.size
 refine ⟨k.1,h.2.1.then k.2.1 fun i hi hl => ?_,fun i hi => ?_⟩
 ·rcases hi with hi | hi
  ·exact h.2.2 i hi
  ·omega
 ·rcases k.2.2 i hi with e | e
  ·exact h.2.2 i e
  ·right;omega
theorem TmsAt.fut {w0 W W':World} {lv v:Value} {L0 L:List Tm} (h:TmsAt w0 W W' lv v L) (hF:Fut w0 W) (hO:OwnL 4 w0.heap.size 115 RTm W lv L0):Fut w0 W':=by
 have hs:=hF.size
 have h1:Only (fun k => w0.heap.size ≤ k) w0 W':=(Only.fut hF).trans (h.2.1.mono fun k _ hk => by
  rcases hk with hk | hk
  ·exact (hO.block k hk).1
  ·omega)
 exact h1.toFut fun k hk => hk
theorem TmsAt.refl {w0 W:World} {lv:Value} {L:List Tm} (hO:OwnL 4 w0.heap.size 115 RTm W lv L):TmsAt w0 W W lv lv L:=⟨hO,Only.refl _,fun k hk => .inl hk⟩
def RTsOk (m:Nat):Prop:=∀ (x:Ex) (cs:List Value) (w0 W:World) (A:Option Addr) (n c:Nat) (L:List Tm),RE m w0 cs x→Fut w0 W→OwnL 4 w0.heap.size 115 RTm W (.slice A n c) L→L.length + x.tms.length ≤ 1000000000→Calls Tryz.prog 328 #[.slice A n c,.agg cs.toArray] W fun e W' => ∃ v,e = .returned v∧TmsAt w0 W W' (.slice A n c) v (L ++ x.tms)
set_option maxHeartbeats 4000000 in
set_option maxRecDepth 100000 in
theorem rets_any:∀ m,RTsOk m
 | 0 => fun x cs w0 W A n c L h => by
  obtain ⟨m',_,_,_,_,_,hm,_⟩:=ex_form h
  omega
 | m + 1 => fun x cs w0 W A n c L h hF hO hl => by
  have IH:=Lib.hid (rets_any m)
  obtain ⟨m',op,⟨tv,⟨xk,xn,xs⟩⟩,ks,A1,c1,hm,rfl,rfl,hc1,hc2,hks⟩:=ex_form h
  obtain ⟨kvx,hkx,_,hok,hkk⟩:=h
  clear hkx hkk
  obtain rfl:m = m':=by omega
  rw [Ex.tms,tmss_flat] at *
  rw [List.length_cons] at hl
  dsimp only at *
  have hbx:=heap_alloc_new W (.cells #[.int .i8 op,.string tv,.int .i8 xk,.int .i64 xn,.string xs,.slice A1 ks.length c1] 118)
  have f0:=Fut.alloc W (.cells #[.int .i8 op,.string tv,.int .i8 xk,.int .i64 xn,.string xs,.slice A1 ks.length c1] 118)
  have HK:=Lib.hid hks
  have HF:=Lib.hid hF
  have HO:=Lib.hid hO
  have HL:=Lib.hid hl
  have hxl:ks.length ≤ 9223372036854775807:=by omega
  have x1:=cell_at hbx 1 _ rfl
  have x2:=cell_at hbx 2 _ rfl
  have x3:=cell_at hbx 3 _ rfl
  have x4:=cell_at hbx 4 _ rfl
  have f1:=Fut.alloc (W.alloc (.cells #[.int .i8 op,.string tv,.int .i8 xk,.int .i64 xn,.string xs,.slice A1 ks.length c1] 118)) (.cells #[.string tv,.int .i8 xk,.int .i64 xn,.string xs] 115)
  have hO2:=Lib.hid (hO.fut RTm.stays (f0.trans f1))
  have hu:=tmOne (W.alloc (.cells #[.int .i8 op,.string tv,.int .i8 xk,.int .i64 xn,.string xs,.slice A1 ks.length c1] 118)) ⟨tv,⟨xk,xn,xs⟩⟩ hok 115
  dsimp only at hu
  rw [show ∀ o,(W.alloc o).heap.size = W.heap.size + 1 from fun o => by simp] at hu
  have HB:=Lib.hid hbx
  have hsz0:=Lib.hid hF.size
  have HF1:=Lib.hid (f0.trans f1)
  have hHB2:=Lib.hid (f1.block hbx)
  clear hks hc1 hc2 hF hO hl hbx f0 f1
  go_enter Tryz.func328,Tryz.ntmps328
  go_wp2_with (first | (at_builtin;refine wpList_append_LB (R:=RTm) (B:=w0.heap.size) (M:=1) (xs:=L) (ys:=[⟨tv,⟨xk,xn,xs⟩⟩]) (e:=115) (by go_simp) _ _ 106 rfl Tryz.underlying106 (.agg zTm.toArray) 48 infoTm4 rfl (by decide) RTm.one RTm.keeps rfl rfl hO2.out hu ?l3 ?m3 ?b3 ?k3))
  case l3 => have:=HL.out;simp [maxLen];omega
  case m3 => have:=HL.out;simp;omega
  case b3 => have:=hsz0.out;simp;omega
  case k3 =>
  intro v' w' o' g' sn'
  have hbl:=HO.out.block
  have hs2:∀ o1 o2,((W.alloc o1).alloc o2).heap.size = W.heap.size + 2:=fun o1 o2 => by simp
  have T1:TmsAt w0 W w' (.slice A n c) v' (L ++ [⟨tv,⟨xk,xn,xs⟩⟩]):=⟨o',(Only.fut HF1.out).then (Only.grown (S:=fun k => (Value.slice A n c).ownBlock = some k) g' fun k hk => hk) (fun i hi _ => .inl hi),fun k hk => by
   rcases sn' with e | e
   ·exact .inl (e ▸ hk)
   ·right
    have:=e k hk
    rw [hs2] at this
    omega⟩
  have hne:∀ k,v'.ownBlock = some k→k ≠ W.heap.size:=fun k hk => by
   rcases sn' with e | e
   ·have:=(hbl k (e ▸ hk)).2
    omega
   ·have:=e k hk
    rw [hs2] at this
    omega
  have B1:=(Only.grown (S:=fun k => (Value.slice A n c).ownBlock = some k) g' fun k hk => hk).keeps hHB2.out (fun h => by have:=(hbl _ h).2;omega)
  have HFw:=Lib.hid (T1.fut HF.out HO.out)
  have HT1:=Lib.hid T1
  have HN1:=Lib.hid hne
  have HB1:=Lib.hid B1
  clear T1 hne B1 o' g' sn' hs2 hu hO2 HB hHB2 HF1 x1 x2 x3 x4
  go_wp2_with fail
  go_loopw [0,5] (fun u i wr => ∃ k:Nat,k ≤ ks.length∧i = .int .i64 k∧Hid (TmsAt w0 W wr (.slice A n c) u (L ++ ⟨tv,⟨xk,xn,xs⟩⟩ :: (ks.take k).flatMap Ex.tms))∧Hid (∀ j,u.ownBlock = some j→j ≠ W.heap.size)∧Hid (wr.heap[W.heap.size]? = some (.cells #[.int .i8 op,.string tv,.int .i8 xk,.int .i64 xn,.string xs,.slice A1 ks.length c1] 118 (0,0)))) (fun _ i _ => ks.length - (intOf i).toNat)
  case atStart => exact ⟨0,Nat.zero_le _,rfl,(by simpa using HT1),HN1,HB1⟩
  case round =>
   obtain ⟨k,hk,rfl,hT,hN,hB⟩:=hrel
   have y5:=cell_at hB.out 5 _ rfl
   have FW:=Lib.hid (hT.out.fut HF.out HO.out)
   have hbw:=Lib.hid (lt_of_block hB.out)
   by_cases hlt:k < ks.length
   ·have hltI:(k:Int) < ks.length:=by omega
    have e0:(0:Int) ≤ k∧(k:Int) < ks.length:=by omega
    obtain ⟨b',off,cs,rfl,hr,hl6,hcs⟩:=sl_rowR HK.out hlt
    have hcs9:=Lib.hid (fun j v hj => FW.out.cell (hcs j v hj))
    have hi6:(Tryz.prog.info? 118).map (·.size) = some cs.length:=by rw [hl6];exact infoEx6'
    have htk:=Lib.hid (tms_take hlt)
    have hle:=tms_le hlt
    obtain ⟨M,hM⟩:∃ M,L ++ ⟨tv,⟨xk,xn,xs⟩⟩ :: (ks.take k).flatMap Ex.tms = M:=⟨_,rfl⟩
    have hMl:M.length + ks[k].tms.length ≤ 1000000000:=(by have:=HL.out;rw [← hM];simp only [List.length_append,List.length_cons];omega)
    rw [hM] at hT
    obtain ⟨Au,cu,rfl,_,_⟩:=hT.out.1.rep.form
    replace hM:=Lib.hid hM
    generalize ks[k] = z at *
    have HC:=Lib.hid (IH.out z cs w0 wr Au _ cu _ hr FW.out hT.out.1 hMl)
    clear hcs hr hle hMl
    go_wp2_with (first | (show wpList _ _ _ (Oper.mk _ (Op.load 118 _) _ _ _ _ :: _) _ _;refine Go.wpList_load_mid rfl _ _ rfl b' (off + k * 6) rfl cs _ hcs9.out Tryz.underlying118 rfl hi6 ?_))
    refine HC.out.mono ?_
    rintro e w3 ⟨v3,rfl,T3⟩
    have hN3:Hid (∀ j,v3.ownBlock = some j→j ≠ W.heap.size):=Lib.hid fun j hj => by
     rcases T3.2.2 j hj with e | e
     ·exact hN.out j e
     ·have:=hbw.out;omega
    have hB3:=Lib.hid (T3.2.1.keeps hB.out (fun h => by
     rcases h with h | h
     ·exact hN.out _ h rfl
     ·have:=hbw.out;omega))
    have hT3:=hT.out.trans T3
    rw [← hM.out,List.append_assoc,List.cons_append,← htk.out] at hT3
    clear hM
    replace hT3:=Lib.hid hT3
    clear T3 HC hT hN hB FW hcs9 hbw
    go_wp2
    go_roundw
    case rel => exact ⟨k + 1,by omega,by go_num,hT3,hN3,hB3⟩
    case measure => simp [intOf] <;> omega
   ·obtain rfl:k = ks.length:=by omega
    rw [List.take_length] at hT
    clear hN hB FW
    go_wp2
    go_ret
    exact ⟨_,rfl,hT.out⟩
def Lt.tms (x:Lt):List Tm:=x.a ++ (x.l.tms ++ x.d.tms)
theorem Lt.tms_vs (x:Lt):x.tms.map (·.v) = x.vs:=by
 unfold Lt.tms Lt.vs
 rw [List.map_append,List.map_append,Ex.tms_vs,Ex.tms_vs]
theorem TmsAt.more {w0 W W1 w':World} {lv v v':Value} {M:List Tm} {t:Tm} {o:Obj} (h:TmsAt w0 W W1 lv v M) (o':OwnL 4 w0.heap.size 115 RTm w' v' (M ++ [t])) (g':(W1.alloc o).grownBy w' v.ownBlock) (sn':SameOrNew (W1.alloc o) v v'):TmsAt w0 W w' lv v' (M ++ [t]) :=
 h.trans ⟨o',(Only.fut (Fut.alloc W1 o)).then (Only.grown (S:=fun k => v.ownBlock = some k) g' fun k hk => hk) (fun i hi _ => .inl hi),fun k hk => by
  rcases sn' with e | e
  ·exact .inl (e ▸ hk)
  ·right
   have:=e k hk
   rw [show (W1.alloc o).heap.size = W1.heap.size + 1 by simp] at this
   omega⟩
theorem TmsAt.keep {w0 W W':World} {lv v:Value} {M:List Tm} {b:Nat} {o:Obj} (h:TmsAt w0 W W' lv v M) (hb:W.heap[b]? = some o) (hn:∀ j,lv.ownBlock = some j→j ≠ b):W'.heap[b]? = some o∧∀ j,v.ownBlock = some j→j ≠ b:=by
 have hl:=lt_of_block hb
 refine ⟨h.2.1.keeps hb (fun h => ?_),fun j hj => ?_⟩
 ·rcases h with h | h
  ·exact hn _ h rfl
  ·omega
 ·rcases h.2.2 j hj with e | e
  ·exact hn j e
  ·omega
set_option maxHeartbeats 4000000 in
set_option maxRecDepth 100000 in
theorem rlts_any (x:Lt) (cs:List Value) (w0 W:World) (A0:Option Addr) (n0 c0:Nat) (L:List Tm) (h:RLt w0 cs x) (hF:Fut w0 W) (hO:OwnL 4 w0.heap.size 115 RTm W (.slice A0 n0 c0) L) (hl:L.length + x.tms.length ≤ 1000000000) :
    Calls Tryz.prog 296 #[.slice A0 n0 c0,.agg cs.toArray] W fun e W' => ∃ v,e = .returned v∧TmsAt w0 W W' (.slice A0 n0 c0) v (L ++ x.tms):=by
 obtain ⟨k,p,a,r,l,d⟩:=x
 obtain ⟨av,cl,cd,rfl,_,_,_,_,hp,ha,⟨n1,h1⟩,⟨n2,h2⟩⟩:=h
 dsimp only at *
 obtain ⟨A,c,rfl,_,hcm⟩:=ha.form
 have H1:=Lib.hid h1
 have H2:=Lib.hid h2
 obtain ⟨m1,op1,⟨tv1,⟨xk1,xn1,xs1⟩⟩,ks1,A1,c1,rfl,rfl,rfl,_,_,_⟩:=ex_form h1
 obtain ⟨m2,op2,⟨tv2,⟨xk2,xn2,xs2⟩⟩,ks2,A2,c2,rfl,rfl,rfl,_,_,_⟩:=ex_form h2
 unfold Lt.tms at *
 dsimp only at *
 rw [List.length_append,List.length_append] at hl
 show Calls Tryz.prog 296 #[.slice A0 n0 c0,.agg #[.int .i8 k,.string p,.slice A a.length c,.int .i8 r,.int .i8 op1,.string tv1,.int .i8 xk1,.int .i64 xn1,.string xs1,.slice A1 ks1.length c1,.int .i8 op2,.string tv2,.int .i8 xk2,.int .i64 xn2,.string xs2,.slice A2 ks2.length c2]] W _
 have hbx:=heap_alloc_new W (.cells #[.int .i8 k,.string p,.slice A a.length c,.int .i8 r,.int .i8 op1,.string tv1,.int .i8 xk1,.int .i64 xn1,.string xs1,.slice A1 ks1.length c1,.int .i8 op2,.string tv2,.int .i8 xk2,.int .i64 xn2,.string xs2,.slice A2 ks2.length c2] 120)
 have f0:=Fut.alloc W (.cells #[.int .i8 k,.string p,.slice A a.length c,.int .i8 r,.int .i8 op1,.string tv1,.int .i8 xk1,.int .i64 xn1,.string xs1,.slice A1 ks1.length c1,.int .i8 op2,.string tv2,.int .i8 xk2,.int .i64 xn2,.string xs2,.slice A2 ks2.length c2] 120)
 have hbl:=hO.block
 have T0:Hid (TmsAt w0 W (W.alloc (.cells #[.int .i8 k,.string p,.slice A a.length c,.int .i8 r,.int .i8 op1,.string tv1,.int .i8 xk1,.int .i64 xn1,.string xs1,.slice A1 ks1.length c1,.int .i8 op2,.string tv2,.int .i8 xk2,.int .i64 xn2,.string xs2,.slice A2 ks2.length c2] 120)) (.slice A0 n0 c0) (.slice A0 n0 c0) (L ++ a.take 0)):=Lib.hid ⟨by rw [List.take_zero,List.append_nil];exact hO.fut RTm.stays f0,Only.fut f0,fun k hk => .inl hk⟩
 have N0:Hid (∀ j,(Value.slice A0 n0 c0).ownBlock = some j→j ≠ W.heap.size):=Lib.hid fun j hj => by have:=(hbl j hj).2;omega
 have B0:=Lib.hid hbx
 have HF:=Lib.hid hF
 have HO:=Lib.hid hO
 have HL:=Lib.hid hl
 have HA:=Lib.hid ha
 have hxl:a.length ≤ 9223372036854775807:=by omega
 have hsz0:=Lib.hid hF.size
 generalize hE1:Ex.tms (Ex.mk op1 ⟨tv1,⟨xk1,xn1,xs1⟩⟩ ks1) = t1 at *
 generalize hE2:Ex.tms (Ex.mk op2 ⟨tv2,⟨xk2,xn2,xs2⟩⟩ ks2) = t2 at *
 replace hE1:=Lib.hid hE1
 replace hE2:=Lib.hid hE2
 clear hbx f0 hbl hF hO hl ha h1 h2 hcm
 go_enter Tryz.func296,Tryz.ntmps296
 go_wp2_with fail
 go_loopw [0,5] (fun u i wr => ∃ q:Nat,q ≤ a.length∧i = .int .i64 q∧Hid (TmsAt w0 W wr (.slice A0 n0 c0) u (L ++ a.take q))∧Hid (∀ j,u.ownBlock = some j→j ≠ W.heap.size)∧Hid (wr.heap[W.heap.size]? = some (.cells #[.int .i8 k,.string p,.slice A a.length c,.int .i8 r,.int .i8 op1,.string tv1,.int .i8 xk1,.int .i64 xn1,.string xs1,.slice A1 ks1.length c1,.int .i8 op2,.string tv2,.int .i8 xk2,.int .i64 xn2,.string xs2,.slice A2 ks2.length c2] 120 (0,0)))) (fun _ i _ => a.length - (intOf i).toNat)
 case atStart => exact ⟨0,Nat.zero_le _,rfl,T0,N0,B0⟩
 case round =>
  obtain ⟨q,hq,rfl,hT,hN,hB⟩:=hrel
  have y2:=cell_at hB.out 2 _ rfl
  have FW:=Lib.hid (hT.out.fut HF.out HO.out)
  have hbw:=Lib.hid (lt_of_block hB.out)
  by_cases hlt:q < a.length
  ·have hltI:(q:Int) < a.length:=by omega
   have e0:(0:Int) ≤ q∧(q:Int) < a.length:=by omega
   have htk:=Lib.hid (show a.take (q + 1) = a.take q ++ [a[q]] from List.take_succ_eq_append_getElem hlt)
   obtain ⟨b',off,rfl,hok,u0',u1',u2',u3'⟩:=tm_at (HA.out.fut RTm.stays FW.out) hlt
   obtain ⟨M,hM⟩:∃ M,L ++ a.take q = M:=⟨_,rfl⟩
   have hMl:M.length + 1 ≤ 1000000000:=(by have:=HL.out;rw [← hM];simp only [List.length_append,List.length_take];omega)
   rw [hM] at hT
   replace hM:=Lib.hid hM
   generalize a[q] = z at *
   have hsw:=Lib.hid FW.out.size
   obtain ⟨Au,cu,rfl,_,_⟩:=hT.out.1.rep.form
   have hO2:=Lib.hid (fun o => hT.out.1.fut RTm.stays (Fut.alloc wr o))
   have hu:=Lib.hid (tmOne wr z hok 115)
   clear hok
   go_wp2_with (first | (at_builtin;refine wpList_append_LB (R:=RTm) (B:=w0.heap.size) (M:=1) (xs:=M) (ys:=[z]) (e:=115) (by go_simp) _ _ 106 rfl Tryz.underlying106 (.agg zTm.toArray) 48 infoTm4 rfl (by decide) RTm.one RTm.keeps rfl rfl (hO2.out _) hu.out ?l3 ?m3 ?b3 ?k3))
   case l3 => simp [maxLen];omega
   case m3 => simp;omega
   case b3 => have:=hsw.out;simp;omega
   case k3 =>
   intro v' w' o' g' sn'
   have T1:=hT.out.more o' g' sn'
   obtain ⟨hB3,hN3⟩:=((TmsAt.refl hT.out.1).more o' g' sn').keep hB.out hN.out
   rw [← hM.out,List.append_assoc,← htk.out] at T1
   have HT3:=Lib.hid T1
   have HB3:=Lib.hid hB3
   have HN3:=Lib.hid hN3
   clear T1 hB3 hN3 hM o' g' sn' hT hN hB FW hbw hsw hO2 hu
   go_wp2
   go_roundw
   case rel => exact ⟨q + 1,by omega,by go_num,HT3,HN3,HB3⟩
   case measure => simp [intOf] <;> omega
  ·obtain rfl:q = a.length:=by omega
   rw [List.take_length] at hT
   obtain ⟨M,hM⟩:∃ M,L ++ a = M:=⟨_,rfl⟩
   have hMl:M.length + (t1.length + t2.length) ≤ 1000000000:=(by have:=HL.out;rw [← hM];simp only [List.length_append];omega)
   rw [hM] at hT
   have HM:=Lib.hid hM
   obtain ⟨Au,cu,rfl,_,_⟩:=hT.out.1.rep.form
   have HC1:=Lib.hid (show Calls Tryz.prog 328 #[.slice Au M.length cu,.agg #[.int .i8 op1,.string tv1,.int .i8 xk1,.int .i64 xn1,.string xs1,.slice A1 ks1.length c1]] wr fun e W' => ∃ v,e = .returned v∧TmsAt w0 wr W' (.slice Au M.length cu) v (M ++ t1) from hE1.out ▸ rets_any _ _ _ w0 wr Au _ cu M H1.out FW.out hT.out.1 (by rw [hE1.out];omega))
   have lB:World.rangeAt wr W.heap.size 4 [.int .i8 op1,.string tv1,.int .i8 xk1,.int .i64 xn1,.string xs1,.slice A1 ks1.length c1]:=range_mid (cs:=[.int .i8 k,.string p,.slice A a.length c,.int .i8 r,.int .i8 op1,.string tv1,.int .i8 xk1,.int .i64 xn1,.string xs1,.slice A1 ks1.length c1,.int .i8 op2,.string tv2,.int .i8 xk2,.int .i64 xn2,.string xs2,.slice A2 ks2.length c2]) hB.out 4 6
   clear hM
   go_wp2_with (first | (show wpList _ _ _ (Oper.mk _ (Op.load 118 _) _ _ _ _ :: _) _ _;refine wpList_loadG (wanted_none rfl _) _ _ rfl W.heap.size 4 rfl [.int .i8 op1,.string tv1,.int .i8 xk1,.int .i64 xn1,.string xs1,.slice A1 ks1.length c1] _ lB Tryz.underlying118 rfl infoEx6' ?_))
   refine HC1.out.mono ?_
   rintro e w3 ⟨v3,rfl,T3⟩
   obtain ⟨hB3,hN3⟩:=T3.keep hB.out hN.out
   have HT3:=Lib.hid (hT.out.trans T3)
   have F3:=Lib.hid (T3.fut FW.out hT.out.1)
   have lC:World.rangeAt w3 W.heap.size 10 [.int .i8 op2,.string tv2,.int .i8 xk2,.int .i64 xn2,.string xs2,.slice A2 ks2.length c2]:=range_mid (cs:=[.int .i8 k,.string p,.slice A a.length c,.int .i8 r,.int .i8 op1,.string tv1,.int .i8 xk1,.int .i64 xn1,.string xs1,.slice A1 ks1.length c1,.int .i8 op2,.string tv2,.int .i8 xk2,.int .i64 xn2,.string xs2,.slice A2 ks2.length c2]) hB3 10 6
   clear HC1 lB T3 hT hB hN FW hbw hB3 hN3
   obtain ⟨N,hN⟩:∃ N,M ++ t1 = N:=⟨_,rfl⟩
   have hNl:N.length + t2.length ≤ 1000000000:=(by rw [← hN,List.length_append];omega)
   rw [hN] at HT3
   have HN:=Lib.hid hN
   obtain ⟨Av,cv,rfl,_,_⟩:=HT3.out.1.rep.form
   have HC2:=Lib.hid (show Calls Tryz.prog 328 #[.slice Av N.length cv,.agg #[.int .i8 op2,.string tv2,.int .i8 xk2,.int .i64 xn2,.string xs2,.slice A2 ks2.length c2]] w3 fun e W' => ∃ v,e = .returned v∧TmsAt w0 w3 W' (.slice Av N.length cv) v (N ++ t2) from hE2.out ▸ rets_any _ _ _ w0 w3 Av _ cv N H2.out F3.out HT3.out.1 (by rw [hE2.out];omega))
   clear hN
   go_wp2_with (first | (show wpList _ _ _ (Oper.mk _ (Op.load 118 _) _ _ _ _ :: _) _ _;refine wpList_loadG (wanted_none rfl _) _ _ rfl W.heap.size 10 rfl [.int .i8 op2,.string tv2,.int .i8 xk2,.int .i64 xn2,.string xs2,.slice A2 ks2.length c2] _ lC Tryz.underlying118 rfl infoEx6' ?_))
   refine HC2.out.mono ?_
   rintro e w5 ⟨v5,rfl,T5⟩
   have HT5:=HT3.out.trans T5
   rw [← HN.out,← HM.out,List.append_assoc,List.append_assoc] at HT5
   clear T5 HC2 lC HT3 F3
   go_wp2
   go_ret
   exact ⟨_,rfl,HT5⟩
def Ru.tms (x:Ru):List Tm:=x.h.map (·.t) ++ x.b.flatMap Lt.tms
theorem Ru.tms_vs (x:Ru):x.tms.map (·.v) = x.hs ++ x.bs:=by
 unfold Ru.tms Ru.hs Ru.bs
 rw [List.map_append,List.map_map,List.map_flatMap]
 congr 1
 congr 1
 funext y
 exact y.tms_vs
theorem ltms_take {l:List Lt} {k:Nat} (hk:k < l.length):(l.take (k + 1)).flatMap Lt.tms = (l.take k).flatMap Lt.tms ++ (l[k]).tms:=by
 rw [List.take_succ_eq_append_getElem hk,List.flatMap_append];simp
theorem ltms_le {l:List Lt} {k:Nat} (hk:k < l.length):((l.take k).flatMap Lt.tms).length + (l[k]).tms.length ≤ (l.flatMap Lt.tms).length:=by
 have h1:(l.flatMap Lt.tms).length = ((l.take (k + 1)).flatMap Lt.tms).length + ((l.drop (k + 1)).flatMap Lt.tms).length:=by
  rw [← List.length_append,← List.flatMap_append,List.take_append_drop]
 rw [ltms_take hk,List.length_append] at h1
 omega
set_option maxHeartbeats 4000000 in
set_option maxRecDepth 100000 in
theorem rrts_any (x:Ru) (Ah Ab:Option Addr) (ch cb:Nat) (w:World) (h1:SlRep 5 2513169434916 RAr w (.slice Ah x.h.length ch) x.h) (h2:SlRep 16 651562446089 RLt w (.slice Ab x.b.length cb) x.b) (hl:x.tms.length ≤ 1000000000) :
    Calls Tryz.prog 264 #[.agg #[.string x.p,.slice Ah x.h.length ch,.slice Ab x.b.length cb]] w fun e w' => ∃ v,e = .returned v∧OwnL 4 w.heap.size 115 RTm w' v x.tms∧Fut w w':=by
 obtain ⟨p,xh,xb⟩:=x
 unfold Ru.tms at *
 dsimp only at *
 rw [List.length_append,List.length_map] at hl
 have hhl:=h1.len
 have hbl:=h2.len
 have H1:=Lib.hid h1
 have H2:=Lib.hid h2
 have HL:=Lib.hid hl
 have hbx:=heap_alloc_new w (.cells #[.string p,.slice Ah xh.length ch,.slice Ab xb.length cb] 82)
 have f0:=Fut.alloc w (.cells #[.string p,.slice Ah xh.length ch,.slice Ab xb.length cb] 82)
 have hO:OwnL 4 w.heap.size 115 RTm w (.slice none 0 0) []:=OwnL.nil
 have T0:Hid (TmsAt w w (w.alloc (.cells #[.string p,.slice Ah xh.length ch,.slice Ab xb.length cb] 82)) (.slice none 0 0) (.slice none 0 0) ((xh.take 0).map (·.t))):=Lib.hid ⟨hO.fut RTm.stays f0,Only.fut f0,fun k hk => .inl hk⟩
 have N0:Hid (∀ j,(Value.slice none 0 0).ownBlock = some j→j ≠ w.heap.size):=Lib.hid fun j hj => by have:=(hO.block j hj).2;omega
 have B0:=Lib.hid hbx
 have HO:=Lib.hid hO
 clear h1 h2 hl hbx f0 hO
 go_enter Tryz.func264,Tryz.ntmps264
 go_wp2_with fail
 go_loopw [3,4] (fun u i wr => ∃ q:Nat,q ≤ xh.length∧i = .int .i64 q∧Hid (TmsAt w w wr (.slice none 0 0) u ((xh.take q).map (·.t)))∧Hid (∀ j,u.ownBlock = some j→j ≠ w.heap.size)∧Hid (wr.heap[w.heap.size]? = some (.cells #[.string p,.slice Ah xh.length ch,.slice Ab xb.length cb] 82 (0,0)))) (fun _ i _ => xh.length - (intOf i).toNat)
 case atStart => exact ⟨0,Nat.zero_le _,rfl,T0,N0,B0⟩
 case round =>
  obtain ⟨q,hq,rfl,hT,hN,hB⟩:=hrel
  have y1:=cell_at hB.out 1 _ rfl
  have FW:=Lib.hid (hT.out.fut (Fut.refl w) HO.out)
  by_cases hlt:q < xh.length
  ·have hltI:(q:Int) < xh.length:=by omega
   have e0:(0:Int) ≤ q∧(q:Int) < xh.length:=by omega
   have htk:=Lib.hid (show (xh.take (q + 1)).map (·.t) = (xh.take q).map (·.t) ++ [(xh[q]).t] by rw [List.take_succ_eq_append_getElem hlt,List.map_append];rfl)
   obtain ⟨b',off,rfl,_,hok,u0',u1',u2',u3',u4'⟩:=ar_at (H1.out.fut RAr.stays FW.out) hlt
   obtain ⟨M,hM⟩:∃ M,(xh.take q).map (·.t) = M:=⟨_,rfl⟩
   have hMl:M.length + 1 ≤ 1000000000:=(by have:=HL.out;rw [← hM,List.length_map,List.length_take];omega)
   rw [hM] at hT htk
   generalize (xh[q]).t = z at *
   have hsw:=Lib.hid FW.out.size
   obtain ⟨Au,cu,rfl,_,_⟩:=hT.out.1.rep.form
   have hO2:=Lib.hid (fun o => hT.out.1.fut RTm.stays (Fut.alloc wr o))
   have hu:=Lib.hid (tmOne wr z hok 115)
   clear hok hM u0'
   go_wp2_with (first | (at_builtin;refine wpList_append_LB (R:=RTm) (B:=w.heap.size) (M:=1) (xs:=M) (ys:=[z]) (e:=115) (by go_simp) _ _ 106 rfl Tryz.underlying106 (.agg zTm.toArray) 48 infoTm4 rfl (by decide) RTm.one RTm.keeps rfl rfl (hO2.out _) hu.out ?l3 ?m3 ?b3 ?k3))
   case l3 => simp [maxLen];omega
   case m3 => simp;omega
   case b3 => have:=hsw.out;simp;omega
   case k3 =>
   intro v' w' o' g' sn'
   have T1:=hT.out.more o' g' sn'
   obtain ⟨hB3,hN3⟩:=((TmsAt.refl hT.out.1).more o' g' sn').keep hB.out hN.out
   rw [← htk.out] at T1
   have HT3:=Lib.hid T1
   have HB3:=Lib.hid hB3
   have HN3:=Lib.hid hN3
   clear T1 hB3 hN3 o' g' sn' hT hN hB FW hsw hO2 hu
   go_wp2
   go_roundw
   case rel => exact ⟨q + 1,by omega,by go_num,HT3,HN3,HB3⟩
   case measure => simp [intOf] <;> omega
  ·obtain rfl:q = xh.length:=by omega
   rw [List.take_length] at hT
   obtain ⟨wo,hwo⟩:∃ x,x = wr:=⟨_,rfl⟩
   subst hwo
   obtain ⟨P,hP⟩:∃ P,xh.map (·.t) = P:=⟨_,rfl⟩
   rw [hP] at hT
   have hPl:P.length = xh.length:=(by rw [← hP,List.length_map])
   have HP:=Lib.hid hP
   have T2:Hid (TmsAt w w wo (.slice none 0 0) u3 (P ++ (xb.take 0).flatMap Lt.tms)):=(by simpa using hT)
   clear hP hT FW T0 N0 B0
   go_wp2_with fail
   go_loopw [3,5] (fun u i wr => ∃ q:Nat,q ≤ xb.length∧i = .int .i64 q∧Hid (TmsAt w w wr (.slice none 0 0) u (P ++ (xb.take q).flatMap Lt.tms))∧Hid (∀ j,u.ownBlock = some j→j ≠ w.heap.size)∧Hid (wr.heap[w.heap.size]? = some (.cells #[.string p,.slice Ah xh.length ch,.slice Ab xb.length cb] 82 (0,0)))) (fun _ i _ => xb.length - (intOf i).toNat)
   case atStart => exact ⟨0,Nat.zero_le _,rfl,T2,hN,hB⟩
   case round =>
    clear hN hB y1 T2
    obtain ⟨q,hq,rfl,hT,hN,hB⟩:=hrel
    have y2:=cell_at hB.out 2 _ rfl
    have FW:=Lib.hid (hT.out.fut (Fut.refl w) HO.out)
    by_cases hlt:q < xb.length
    ·have hltI:(q:Int) < xb.length:=by omega
     have e0:(0:Int) ≤ q∧(q:Int) < xb.length:=by omega
     have htk:=Lib.hid (ltms_take hlt)
     have hle:=ltms_le hlt
     obtain ⟨b',off,cs,rfl,hr,hl6,hcs⟩:=sl_rowR H2.out hlt
     have hcs9:=Lib.hid (fun j v hj => FW.out.cell (hcs j v hj))
     have hi6:(Tryz.prog.info? 120).map (·.size) = some cs.length:=by rw [hl6];exact infoLtN
     obtain ⟨M,hM⟩:∃ M,P ++ (xb.take q).flatMap Lt.tms = M:=⟨_,rfl⟩
     have hMl:M.length + xb[q].tms.length ≤ 1000000000:=(by have:=HL.out;rw [← hM,List.length_append];omega)
     rw [hM] at hT
     replace hM:=Lib.hid hM
     generalize xb[q] = z at *
     obtain ⟨Au,cu,rfl,_,_⟩:=hT.out.1.rep.form
     have HC:=Lib.hid (rlts_any z cs w wr Au _ cu M hr FW.out hT.out.1 hMl)
     clear hcs hr hle hMl
     go_wp2_with (first | (show wpList _ _ _ (Oper.mk _ (Op.load 120 _) _ _ _ _ :: _) _ _;refine Go.wpList_load_mid rfl _ _ rfl b' (off + q * 16) rfl cs _ hcs9.out Tryz.underlying120 rfl hi6 ?_))
     refine HC.out.mono ?_
     rintro e w3 ⟨v3,rfl,T3⟩
     obtain ⟨hB3,hN3⟩:=T3.keep hB.out hN.out
     have hT3:=hT.out.trans T3
     rw [← hM.out,List.append_assoc,← htk.out] at hT3
     have HT3:=Lib.hid hT3
     have HB3:=Lib.hid hB3
     have HN3:=Lib.hid hN3
     clear T3 HC hT hN hB FW hcs9 hT3 hB3 hN3 hM
     go_wp2
     go_roundw
     case rel => exact ⟨q + 1,by omega,by go_num,HT3,HN3,HB3⟩
     case measure => simp [intOf] <;> omega
    ·obtain rfl:q = xb.length:=by omega
     rw [List.take_length,← HP.out] at hT
     clear hN hB
     go_wp2
     go_ret
     exact ⟨_,rfl,hT.out.1,FW.out⟩
set_option maxHeartbeats 2000000 in
set_option maxRecDepth 100000 in
theorem rruleVars_any (x:Ru) (Ah Ab:Option Addr) (ch cb:Nat) (w:World) (h1:SlRep 5 2513169434916 RAr w (.slice Ah x.h.length ch) x.h) (h2:SlRep 16 651562446089 RLt w (.slice Ab x.b.length cb) x.b) (hl:x.tms.length ≤ 1000000000) :
    Calls Tryz.prog 208 #[.agg #[.string x.p,.slice Ah x.h.length ch,.slice Ab x.b.length cb]] w fun e w' => ∃ v,e = .returned v∧Nms w.heap.size w' v x.vars∧Fut w w':=by
 have hv:tmVars x.tms = x.vars:=by unfold tmVars Ru.vars;rw [Ru.tms_vs]
 have f0:=Lib.hid (Fut.alloc w (.cells #[.string x.p,.slice Ah x.h.length ch,.slice Ab x.b.length cb] 82))
 have hbx:=heap_alloc_new w (.cells #[.string x.p,.slice Ah x.h.length ch,.slice Ab x.b.length cb] 82)
 have x0:=cell_at hbx 0 _ rfl
 have x1:=cell_at hbx 1 _ rfl
 have x2:=cell_at hbx 2 _ rfl
 have HR:=Lib.hid (fun W (hW:Fut w W) => rrts_any x Ah Ab ch cb W (h1.fut RAr.stays hW) (h2.fut RLt.stays hW) hl)
 have HL:=Lib.hid hl
 have HV:=Lib.hid hv
 clear h1 h2 hl hbx hv
 go_enter Tryz.func208,Tryz.ntmps208
 go_wp2_with fail
 refine (HR.out _ f0.out).mono ?_
 rintro e w1 ⟨v1,rfl,o1,f1⟩
 obtain ⟨Au,cu,rfl,_,_⟩:=o1.rep.form
 have F1:=Lib.hid (f0.out.trans f1)
 have HC:=Lib.hid (rvars_any Au cu x.tms w1 o1.rep (by decide) HL.out)
 clear o1 f1
 go_wp2_with fail
 refine HC.out.mono ?_
 rintro e w2 ⟨v2,rfl,o2,f2⟩
 rw [HV.out] at o2
 have hs:=F1.out.size
 go_wp2
 go_ret
 exact ⟨_,rfl,o2.base hs,F1.out.trans f2⟩
end Go.Proofs.YtobabnpllokkaaaGreatDoor
namespace Go.Proofs.YtobabnpllokkaaaGreatDoor
open Go.RowKit Go.WideMaps Go.Maps
set_option maxHeartbeats 2000000 in
set_option maxRecDepth 100000 in
theorem rrule_any (x:Ru) (Ah Ab:Option Addr) (ch cb:Nat) (w:World) (hp:x.p.size ≤ 140737488351232) (h1:SlRep 5 2513169434916 RAr w (.slice Ah x.h.length ch) x.h) (h2:SlRep 16 651562446089 RLt w (.slice Ab x.b.length cb) x.b) (hl:x.hs.length + x.bs.length ≤ 1000000000) :
    Calls Tryz.prog 294 #[.agg #[.string x.p,.slice Ah x.h.length ch,.slice Ab x.b.length cb]] w fun e w' => e = .returned (.bool x.good)∧Fut w w':=by
 have hl':x.tms.length ≤ 1000000000:=(by
  have h9:(x.tms.map (·.v)).length = (x.hs ++ x.bs).length:=by rw [Ru.tms_vs]
  rw [List.length_map,List.length_append] at h9
  omega)
 have hnv:nameV x.p = nameT x.p:=by rw [nameV_eq,Bool.and_comm];rfl
 have HN:=Lib.hid (fun W => rname_any x.p W hp)
 rw [hnv] at HN
 clear hnv
 have HV:=Lib.hid (fun W (hW:Fut w W) => rruleVars_any x Ah Ab ch cb W (h1.fut RAr.stays hW) (h2.fut RLt.stays hW) hl')
 have hh:=h1.len
 have hb:=h2.len
 have H1:=Lib.hid h1
 have H2:=Lib.hid h2
 obtain ⟨b,hgb⟩:∃ b,x.good = b:=⟨_,rfl⟩
 rw [hgb]
 unfold Ru.good at hgb
 clear h1 h2 hl hl'
 obtain ⟨nm,hnm⟩:∃ nm,nameT x.p = nm:=⟨_,rfl⟩
 rw [hnm] at HN hgb
 clear hnm
 generalize x.vars = vars at *
 obtain ⟨p,xh,xb⟩:=x
 dsimp only at *
 have hbx:=heap_alloc_new w (.cells #[.string p,.slice Ah xh.length ch,.slice Ab xb.length cb] 82)
 have FB:=Lib.hid (Fut.alloc w (.cells #[.string p,.slice Ah xh.length ch,.slice Ab xb.length cb] 82))
 replace hgb:=Lib.hid hgb
 cases nm
 ·obtain rfl:b = false:=by rw [← hgb.out];simp
  go_enter Tryz.func294,Tryz.ntmps294
  go_wp2_with fail
  refine (HN.out _).mono ?_
  rintro e w1 ⟨rfl,f1⟩
  go_wp2
  go_ret
  exact ⟨by first | rfl | simp,FB.out.trans f1⟩
 by_cases hlh:xh.length ≤ 24
 rotate_left
 ·obtain rfl:b = false:=by rw [← hgb.out];simp [hlh]
  have hlI:(xh.length:Int) > 24:=by omega
  go_enter Tryz.func294,Tryz.ntmps294
  go_wp2_with fail
  refine (HN.out _).mono ?_
  rintro e w1 ⟨rfl,f1⟩
  have y1:=cell_at (f1.block hbx) 1 (.slice Ah xh.length ch) rfl
  go_wp2
  go_ret
  exact ⟨by first | rfl | simp,FB.out.trans f1⟩
 by_cases hlb:xb.length ≤ 16
 rotate_left
 ·obtain rfl:b = false:=by rw [← hgb.out];simp [hlb]
  have hlI:¬ (xh.length:Int) > 24:=by omega
  have hlJ:(xb.length:Int) > 16:=by omega
  have hlN:¬ 24 < xh.length:=by omega
  go_enter Tryz.func294,Tryz.ntmps294
  go_wp2_with fail
  refine (HN.out _).mono ?_
  rintro e w1 ⟨rfl,f1⟩
  have y1:=cell_at (f1.block hbx) 1 (.slice Ah xh.length ch) rfl
  have y2:=cell_at (f1.block hbx) 2 (.slice Ab xb.length cb) rfl
  go_wp2
  go_ret
  exact ⟨by first | rfl | simp,FB.out.trans f1⟩
 have hlI:¬ (xh.length:Int) > 24:=by omega
 have hlJ:¬ (xb.length:Int) > 16:=by omega
 have hlN:¬ 24 < xh.length:=by omega
 have hlM:¬ 16 < xb.length:=by omega
 replace hgb:=Lib.hid (show (xh.all Ar.good && xb.all Lt.good && decide (vars.length ≤ 24)) = b by rw [← hgb.out];simp [hlh,hlb])
 go_enter Tryz.func294,Tryz.ntmps294
 go_wp2_with fail
 refine (HN.out _).mono ?_
 rintro e w1 ⟨rfl,f1⟩
 have y1:=cell_at (f1.block hbx) 1 (.slice Ah xh.length ch) rfl
 have y2:=cell_at (f1.block hbx) 2 (.slice Ab xb.length cb) rfl
 have HB:=Lib.hid (f1.block hbx)
 have F1:=Lib.hid (FB.out.trans f1)
 clear f1 hbx
 go_wp2_with fail
 go_loopw [3] (fun i wr => ∃ k:Nat,k ≤ xh.length∧i = .int .i64 k∧Hid (Fut w wr)∧Hid (Fut w1 wr)∧Hid (∀ y ∈ xh.take k,y.good = true)) (fun i _ => xh.length - (intOf i).toNat)
 case atStart => exact ⟨0,Nat.zero_le _,rfl,F1,Lib.hid (Fut.refl _),Lib.hid (fun y hy => by simp at hy)⟩
 case round =>
  obtain ⟨k,hk,rfl,hF,hG,hA⟩:=hrel
  have z1:=cell_at (hG.out.block HB.out) 1 (.slice Ah xh.length ch) rfl
  by_cases hlt:k < xh.length
  ·have hltI:(k:Int) < xh.length:=by omega
   have e0:(0:Int) ≤ k∧(k:Int) < xh.length:=by omega
   obtain ⟨b',off,rfl,_,hok,u0,u1,u2,u3,u4⟩:=ar_at (H1.out.fut RAr.stays hF.out) hlt
   have hnx:=Lib.hid (List.take_succ_eq_append_getElem hlt)
   have hmem:=Lib.hid (List.getElem_mem hlt)
   generalize xh[k] = z at *
   have HC:=Lib.hid (fun W => rargument_any z W hok)
   obtain ⟨d,hd⟩:∃ d,z.good = d:=⟨_,rfl⟩
   simp only [hd] at HC
   replace hd:=Lib.hid hd
   cases d
   ·obtain rfl:b = false:=by
      rw [← hgb.out]
      have h9:xh.all Ar.good = false:=List.all_eq_false.2 ⟨z,hmem.out,by rw [hd.out];decide⟩
      rw [h9];rfl
    go_wp2_with fail
    refine (HC.out _).mono ?_
    rintro e w3 ⟨rfl,f3⟩
    go_wp2
    go_ret
    exact ⟨by first | rfl | simp,hF.out.trans f3⟩
   ·go_wp2_with fail
    refine (HC.out _).mono ?_
    rintro e w3 ⟨rfl,f3⟩
    have HF3:=Lib.hid (hF.out.trans f3)
    have HG3:=Lib.hid (hG.out.trans f3)
    have HA3:Hid (∀ y ∈ xh.take (k + 1),y.good = true):=Lib.hid fun y hy => by
     rw [hnx.out,List.mem_append] at hy
     rcases hy with hy | hy
     ·exact hA.out y hy
     ·rw [List.mem_singleton] at hy;subst hy;exact hd.out
    clear f3
    go_wp2
    go_roundw
    case rel => exact ⟨k + 1,by omega,by go_num,HF3,HG3,HA3⟩
    case measure => simp [intOf] <;> omega
  ·obtain rfl:k = xh.length:=by omega
   obtain ⟨wo,hwo⟩:∃ x,x = wr:=⟨_,rfl⟩
   subst hwo
   rw [List.take_length] at hA
   have hall:xh.all Ar.good = true:=List.all_eq_true.2 hA.out
   replace hgb:=Lib.hid (show (xb.all Lt.good && decide (vars.length ≤ 24)) = b by rw [← hgb.out,hall];rfl)
   have z1:=cell_at (hG.out.block HB.out) 2 (.slice Ab xb.length cb) rfl
   have HBw:=Lib.hid (hG.out.block HB.out)
   have HFw:=Lib.hid hF.out
   clear hG hA hall F1 HB hF
   go_wp2_with fail
   go_loopw [4] (fun i W => ∃ k:Nat,k ≤ xb.length∧i = .int .i64 k∧Hid (Fut w W)∧Hid (Fut wo W)∧Hid (∀ y ∈ xb.take k,y.good = true)) (fun i _ => xb.length - (intOf i).toNat)
   case atStart => exact ⟨0,Nat.zero_le _,rfl,HFw,Lib.hid (Fut.refl _),Lib.hid (fun y hy => by simp at hy)⟩
   case round =>
    obtain ⟨k,hk,rfl,hF,hG,hA⟩:=hrel
    have z2:=cell_at (hG.out.block HBw.out) 2 (.slice Ab xb.length cb) rfl
    by_cases hlt:k < xb.length
    ·have hltI:(k:Int) < xb.length:=by omega
     have e0:(0:Int) ≤ k∧(k:Int) < xb.length:=by omega
     obtain ⟨b',off,cs,rfl,hr,hl6,hcs⟩:=sl_rowR (H2.out.fut RLt.stays hF.out) hlt
     have hcs9:=Lib.hid hcs
     have hi6:(Tryz.prog.info? 120).map (·.size) = some cs.length:=by rw [hl6];exact infoLtN
     have hnx:=Lib.hid (List.take_succ_eq_append_getElem hlt)
     have hmem:=Lib.hid (List.getElem_mem hlt)
     generalize xb[k] = z at *
     have HC:=Lib.hid (rliteral_any z cs wr hr)
     obtain ⟨d,hd⟩:∃ d,z.good = d:=⟨_,rfl⟩
     simp only [hd] at HC
     replace hd:=Lib.hid hd
     clear hcs hr
     cases d
     ·obtain rfl:b = false:=by
        rw [← hgb.out]
        have h9:xb.all Lt.good = false:=List.all_eq_false.2 ⟨_,hmem.out,by rw [hd.out];decide⟩
        rw [h9];rfl
      go_wp2_with (first | (show wpList _ _ _ (Oper.mk _ (Op.load 120 _) _ _ _ _ :: _) _ _;refine Go.wpList_load_mid rfl _ _ rfl b' (off + k * 16) rfl cs _ hcs9.out Tryz.underlying120 rfl hi6 ?_))
      refine HC.out.mono ?_
      rintro e w3 ⟨rfl,f3⟩
      go_wp2
      go_ret
      exact ⟨by first | rfl | simp,hF.out.trans f3⟩
     ·go_wp2_with (first | (show wpList _ _ _ (Oper.mk _ (Op.load 120 _) _ _ _ _ :: _) _ _;refine Go.wpList_load_mid rfl _ _ rfl b' (off + k * 16) rfl cs _ hcs9.out Tryz.underlying120 rfl hi6 ?_))
      refine HC.out.mono ?_
      rintro e w3 ⟨rfl,f3⟩
      have HF3:=Lib.hid (hF.out.trans f3)
      have HG3:=Lib.hid (hG.out.trans f3)
      have HA3:Hid (∀ y ∈ xb.take (k + 1),y.good = true):=Lib.hid fun y hy => by
       rw [hnx.out,List.mem_append] at hy
       rcases hy with hy | hy
       ·exact hA.out y hy
       ·rw [List.mem_singleton] at hy;subst hy;exact hd.out
      clear f3
      go_wp2
      go_roundw
      case rel => exact ⟨k + 1,by omega,by go_num,HF3,HG3,HA3⟩
      case measure => simp [intOf] <;> omega
    ·obtain rfl:k = xb.length:=by omega
     rw [List.take_length] at hA
     have hall:xb.all Lt.good = true:=List.all_eq_true.2 hA.out
     replace hgb:=Lib.hid (show decide (vars.length ≤ 24) = b by rw [← hgb.out,hall];rfl)
     have hb1:=hG.out.block HBw.out
     have z0:=cell_at hb1 0 (.string p) rfl
     have z1:=cell_at hb1 1 (.slice Ah xh.length ch) rfl
     have z2:=cell_at hb1 2 (.slice Ab xb.length cb) rfl
     clear hb1 hA hall
     go_wp2_with fail
     refine (HV.out _ hF.out).mono ?_
     rintro e w3 ⟨v,rfl,hv,f3⟩
     obtain ⟨A3,c3,rfl,_,_⟩:=hv.rep.form
     have HF3:=Lib.hid (hF.out.trans f3)
     clear hv f3
     generalize vars.length = nv at *
     by_cases hnv:nv ≤ 24
     ·obtain rfl:b = true:=by rw [← hgb.out];simp [hnv]
      have hnI:(nv:Int) ≤ 24:=by omega
      go_wp2
      go_ret
      exact ⟨by first | rfl | simp,HF3.out⟩
     ·obtain rfl:b = false:=by rw [← hgb.out];simp [hnv]
      have hnI:¬ (nv:Int) ≤ 24:=by omega
      go_wp2
      go_ret
      exact ⟨by first | rfl | (simp;done) | (simp;omega),HF3.out⟩
end Go.Proofs.YtobabnpllokkaaaGreatDoor
namespace Go.Proofs.YtobabnpllokkaaaGreatDoor
open Go.RowKit Go.WideMaps Go.Maps
set_option maxHeartbeats 400000 in
theorem rsaid_any (b:Bool) (w:World):Calls Tryz.prog 293 #[.bool b] w fun e w' => e = .returned (.int .i64 (if b then 0 else 40))∧w' = w:=by
 cases b
 ·go_enter Tryz.func293,Tryz.ntmps293
  go_wp2
  go_ret
  exact ⟨rfl,rfl⟩
 ·go_enter Tryz.func293,Tryz.ntmps293
  go_wp2
  go_ret
  exact ⟨rfl,rfl⟩
set_option maxHeartbeats 1000000 in
theorem rcheckR_any (x:Ru) (Ah Ab:Option Addr) (ch cb:Nat) (w:World) (hp:x.p.size ≤ 140737488351232) (h1:SlRep 5 2513169434916 RAr w (.slice Ah x.h.length ch) x.h) (h2:SlRep 16 651562446089 RLt w (.slice Ab x.b.length cb) x.b) (hl:x.hs.length + x.bs.length ≤ 1000000000) :
    Calls Tryz.prog 260 #[.agg #[.string x.p,.slice Ah x.h.length ch,.slice Ab x.b.length cb]] w fun e w' => e = .returned (.int .i64 (if x.good = true then 0 else 40))∧Fut w w':=by
 have f0:=Lib.hid (Fut.alloc w (.cells #[.string x.p,.slice Ah x.h.length ch,.slice Ab x.b.length cb] 82))
 have HR:=Lib.hid (fun W (hW:Fut w W) => rrule_any x Ah Ab ch cb W hp (h1.fut RAr.stays hW) (h2.fut RLt.stays hW) hl)
 have hbx:=heap_alloc_new w (.cells #[.string x.p,.slice Ah x.h.length ch,.slice Ab x.b.length cb] 82)
 have x0:=cell_at hbx 0 _ rfl
 have x1:=cell_at hbx 1 _ rfl
 have x2:=cell_at hbx 2 _ rfl
 clear h1 h2 hl hbx hp
 generalize x.good = g at *
 generalize x.h.length = n at *
 generalize x.b.length = m at *
 generalize x.p = p at *
 have HS:=Lib.hid (fun W => rsaid_any g W)
 obtain ⟨q,hq⟩:∃ q:Int,(if g = true then 0 else 40) = q:=⟨_,rfl⟩
 rw [hq] at HS ⊢
 clear hq
 go_enter Tryz.func260,Tryz.ntmps260
 go_wp2_with fail
 refine (HR.out _ f0.out).mono ?_
 rintro e w1 ⟨rfl,f1⟩
 go_wp2_with fail
 refine (HS.out _).mono ?_
 rintro e w2 ⟨rfl,rfl⟩
 go_wp2
 go_ret
 exact ⟨rfl,f0.out.trans f1⟩
set_option maxHeartbeats 1000000 in
theorem ratomVars_any (p:ByteArray) (A:Option Addr) (c M:Nat) (ts:List Tm) (w:World) (h:SlRep 4 M RTm w (.slice A ts.length c) ts) (hM:M ≤ 9223372036854775807) (hl:ts.length ≤ 1000000000) :
    Calls Tryz.prog 265 #[.agg #[.string p,.slice A ts.length c]] w fun e w' => ∃ v,e = .returned v∧Nms w.heap.size w' v (tmVars ts)∧Fut w w':=by
 have hb:=heap_alloc_new w (.cells #[.string p,.slice A ts.length c] 108)
 have f0:=Fut.alloc w (.cells #[.string p,.slice A ts.length c] 108)
 have hs:(w.alloc (.cells #[.string p,.slice A ts.length c] 108)).heap.size = w.heap.size + 1:=by simp
 have HV:=Lib.hid (rvars_any A c ts (w.alloc (.cells #[.string p,.slice A ts.length c] 108)) (h.fut RTm.stays f0) hM hl)
 have y1:=cell_at hb 1 _ rfl
 rw [hs] at HV
 clear h hb hs
 replace f0:=Lib.hid f0
 generalize ts.length = n at *
 go_enter Tryz.func265,Tryz.ntmps265
 go_wp2_with fail
 refine HV.out.mono ?_
 rintro e w1 ⟨v,rfl,h1,f1⟩
 have H1:=Lib.hid (And.intro (h1.base (Nat.le_succ _)) (f0.out.trans f1))
 clear h1 f1
 go_wp2
 go_ret
 exact ⟨_,rfl,H1.out⟩
set_option maxHeartbeats 1000000 in
theorem rexprVars_any (x:Ex) (cs:List Value) (n:Nat) (w:World) (h:RE n w cs x) (hl:x.size ≤ 1000000000) :
    Calls Tryz.prog 327 #[.agg cs.toArray] w fun e w' => ∃ v,e = .returned v∧Nms w.heap.size w' v x.vars∧Fut w w':=by
 have hl2:x.tms.length ≤ 1000000000:=by rw [Ex.tms_len];exact hl
 have hv:tmVars x.tms = x.vars:=by unfold tmVars Ex.vars;rw [Ex.tms_vs]
 have H:=Lib.hid h
 obtain ⟨m,op,⟨tv,⟨xk,xn,xs⟩⟩,ks,A1,c1,hm,rfl,rfl,hc1,hc2,hks⟩:=ex_form h
 dsimp only at *
 have hbx:=heap_alloc_new w (.cells #[.int .i8 op,.string tv,.int .i8 xk,.int .i64 xn,.string xs,.slice A1 ks.length c1] 118)
 have f0:=Fut.alloc w (.cells #[.int .i8 op,.string tv,.int .i8 xk,.int .i64 xn,.string xs,.slice A1 ks.length c1] 118)
 have hs:(w.alloc (.cells #[.int .i8 op,.string tv,.int .i8 xk,.int .i64 xn,.string xs,.slice A1 ks.length c1] 118)).heap.size = w.heap.size + 1:=by simp
 have HR:=Lib.hid (rets_any n _ _ w (w.alloc (.cells #[.int .i8 op,.string tv,.int .i8 xk,.int .i64 xn,.string xs,.slice A1 ks.length c1] 118)) none 0 0 [] H.out f0 OwnL.nil (by simpa using hl2))
 have HB:=Lib.hid (block_range (cs:=[.int .i8 op,.string tv,.int .i8 xk,.int .i64 xn,.string xs,.slice A1 ks.length c1]) hbx)
 have hi6:(Tryz.prog.info? 118).map (·.size) = some [Value.int .i8 op,.string tv,.int .i8 xk,.int .i64 xn,.string xs,.slice A1 ks.length c1].length:=infoEx6'
 have F0:=Lib.hid f0
 have HL:=Lib.hid hl2
 have HV:=Lib.hid hv
 clear h hl hl2 hbx hs f0 hv hks hc1 hc2
 go_enter Tryz.func327,Tryz.ntmps327
 go_wp2_with (first | (show wpList _ _ _ (Oper.mk _ (Op.load 118 _) _ _ _ _ :: _) _ _;refine Go.wpList_load_mid rfl _ _ rfl w.heap.size 0 rfl [.int .i8 op,.string tv,.int .i8 xk,.int .i64 xn,.string xs,.slice A1 ks.length c1] _ HB.out Tryz.underlying118 rfl hi6 ?_))
 refine HR.out.mono ?_
 rintro e w1 ⟨v1,rfl,T1⟩
 have F1:=T1.fut F0.out OwnL.nil
 have O1:=T1.1
 rw [List.nil_append] at O1
 obtain ⟨Au,cu,rfl,_,_⟩:=O1.rep.form
 have HC:=Lib.hid (rvars_any Au cu _ w1 O1.rep (by decide) HL.out)
 rw [HV.out] at HC
 have hs1:=F1.size
 replace F1:=Lib.hid F1
 clear T1 O1 HR
 generalize (Ex.mk op ⟨tv,⟨xk,xn,xs⟩⟩ ks).tms.length = q at *
 go_wp2_with fail
 refine HC.out.mono ?_
 rintro e w2 ⟨v2,rfl,o2,f2⟩
 have H2:=Lib.hid (And.intro (o2.base hs1) (F1.out.trans f2))
 clear o2 f2
 go_wp2
 go_ret
 exact ⟨_,rfl,H2.out⟩
end Go.Proofs.YtobabnpllokkaaaGreatDoor
namespace Go.Proofs.YtobabnpllokkaaaGreatDoor
open Go.RowKit Go.WideMaps Go.Maps
theorem addVar_sub {L:List ByteArray} {v x:ByteArray} (h:x ∈ L):x ∈ addVar L v:=by
 unfold addVar
 split
 ·exact h
 ·split
  ·exact h
  ·split
   ·exact h
   ·exact List.mem_append_left _ h
theorem foldV_sub:∀ (vs L:List ByteArray) {x:ByteArray},x ∈ L→x ∈ vs.foldl addVar L
 | [],_,_,h => h
 | v :: r,L,_,h => foldV_sub r _ (addVar_sub h)
theorem foldV_new:∀ (vs L:List ByteArray) {x:ByteArray},x ∈ vs→x.toList ≠ []→x.toList ≠ [95]→x ∈ vs.foldl addVar L
 | [],_,_,h,_,_ => by cases h
 | v :: r,L,x,h,h1,h2 => by
  rcases List.mem_cons.1 h with rfl | h
  ·refine foldV_sub r _ ?_
   unfold addVar
   rw [if_neg h1,if_neg h2]
   split
   ·assumption
   ·simp
  ·exact foldV_new r _ h h1 h2
theorem ba0:(⟨#[]⟩:ByteArray).toList = []:=by rw [ByteArray.toList_eq]
theorem Ex.lone_vars (e:Ex) (h:e.lone.toList ≠ []):e.lone ∈ e.vars:=by
 unfold Ex.lone at *
 split at h
 ·rename_i h1
  rw [if_pos h1]
  refine foldV_new _ _ ?_ h h1.2.2
  obtain ⟨op,t,ks⟩:=e
  simp [Ex.vs,Ex.t]
 ·exact absurd ba0 h
def Eqn.wf (q:Eqn):Prop:=(q.l.toList ≠ []→q.l ∈ q.ls)∧(q.r.toList ≠ []→q.r ∈ q.rs)
theorem Lt.eqn_wf (x:Lt):x.eqn.wf:=⟨Ex.lone_vars _,Ex.lone_vars _⟩
theorem allIn_iff {L vs:List ByteArray}:allIn L vs = true↔∀ v ∈ vs,v ∈ L:=by
 unfold allIn
 rw [List.all_eq_true]
 exact ⟨fun h v hv => of_decide_eq_true (h v hv),fun h v hv => decide_eq_true (h v hv)⟩
def Inert (q:Eqn) (L:List ByteArray):Prop:=∀ L',(∀ x ∈ L,x ∈ L')→q.takes L' = (false,L')
theorem Inert.mono {q:Eqn} {L L':List ByteArray} (h:Inert q L) (hs:∀ x ∈ L,x ∈ L'):Inert q L':=fun L'' h2 => h L'' fun x hx => h2 x (hs x hx)
theorem takes_sub (q:Eqn) (L:List ByteArray):∀ x ∈ L,x ∈ (q.takes L).2:=fun x hx => by
 unfold Eqn.takes
 split
 ·exact List.mem_append_left _ hx
 ·split
  ·exact List.mem_append_left _ hx
  ·exact hx
theorem takes_false {q:Eqn} {L:List ByteArray} (h:(q.takes L).1 = false):q.takes L = (false,L):=by
 unfold Eqn.takes at *
 split at h
 ·cases h
 ·split at h
  ·cases h
  ·rename_i h1 h2
   rw [if_neg h1,if_neg h2]
theorem takes_len {q:Eqn} {L:List ByteArray} (h:(q.takes L).1 = true):(q.takes L).2.length = L.length + 1:=by
 unfold Eqn.takes at *
 split at h
 ·rename_i h1;rw [if_pos h1];simp
 ·rename_i h1
  rw [if_neg h1]
  split at h
  ·rename_i h2;rw [if_pos h2];simp
  ·cases h
theorem takes_inert {q:Eqn} {L:List ByteArray} (hw:q.wf) (h:(q.takes L).1 = true):Inert q (q.takes L).2:=by
 intro L' hs
 unfold Eqn.takes at h hs
 unfold Eqn.takes
 by_cases h1:q.l.toList ≠ []∧q.l ∉ L∧allIn L q.rs = true
 ·rw [if_pos h1] at h hs
  have e1:q.l ∈ L':=hs _ (by simp)
  rw [if_neg (fun h9 => h9.2.1 e1),if_neg]
  intro h9
  exact h9.2.1 (hs _ (List.mem_append_left _ (allIn_iff.1 h1.2.2 _ (hw.2 h9.1))))
 ·rw [if_neg h1] at h hs
  by_cases h2:q.r.toList ≠ []∧q.r ∉ L∧allIn L q.ls = true
  ·rw [if_pos h2] at h hs
   have e1:q.r ∈ L':=hs _ (by simp)
   rw [if_neg,if_neg (fun h9 => h9.2.1 e1)]
   intro h9
   exact h9.2.1 (hs _ (List.mem_append_left _ (allIn_iff.1 h2.2.2 _ (hw.1 h9.1))))
  ·rw [if_neg h2] at h
   cases h
inductive Thin (L:List ByteArray):List Eqn→List Eqn→Prop
 | nil:Thin L [] []
 | keep {q E qs}:Thin L E qs→Thin L (q :: E) (q :: qs)
 | drop {q E qs}:Inert q L→Thin L E qs→Thin L (q :: E) qs
theorem Thin.refl (L:List ByteArray):∀ E:List Eqn,Thin L E E
 | [] => .nil
 | _ :: r => .keep (Thin.refl L r)
def runE (E:List Eqn) (L:List ByteArray):List ByteArray:=E.foldl (fun L q => (q.takes L).2) L
theorem runE_sub:∀ (E:List Eqn) (L:List ByteArray),∀ x ∈ L,x ∈ runE E L
 | [],_,_,h => h
 | q :: r,L,x,h => runE_sub r _ x (takes_sub q L x h)
theorem Thin.round {L0:List ByteArray} {E qs:List Eqn} (h:Thin L0 E qs) (hw:∀ q ∈ E,q.wf):∀ (L:List ByteArray) (acc:List Eqn),(∀ x ∈ L0,x ∈ L)→(qs.foldl stepE (acc,L)).2 = runE E L∧∃ qs',(qs.foldl stepE (acc,L)).1 = acc ++ qs'∧Thin (runE E L) E qs'∧qs'.length + (runE E L).length = qs.length + L.length:=by
 induction h with
 | nil => exact fun L acc hs => ⟨rfl,[],by simp,.nil,rfl⟩
 | @keep q E qs h ih =>
  intro L acc hs
  have ih:=ih (fun q hq => hw q (List.mem_cons_of_mem _ hq))
  show ((qs.foldl stepE (stepE (acc,L) q)).2 = runE E (q.takes L).2)∧_
  cases ht:(q.takes L).1 with
  | true =>
   have e1:stepE (acc,L) q = (acc,(q.takes L).2):=by unfold stepE;rw [if_pos ht]
   obtain ⟨g1,qs',g2,g3,g4⟩:=ih (q.takes L).2 acc (fun x hx => takes_sub q L x (hs x hx))
   rw [e1]
   refine ⟨g1,qs',?_,.drop ((takes_inert (hw q (List.mem_cons_self ..)) ht).mono (runE_sub E _)) g3,?_⟩
   ·rw [List.foldl_cons,e1];exact g2
   ·have:=takes_len ht
    show qs'.length + (runE E (q.takes L).2).length = _
    rw [List.length_cons]
    omega
  | false =>
   have e0:=takes_false ht
   have e1:stepE (acc,L) q = (acc ++ [q],L):=by unfold stepE;rw [if_neg (by rw [ht];decide),e0]
   have e2:(q.takes L).2 = L:=by rw [e0]
   obtain ⟨g1,qs',g2,g3,g4⟩:=ih L (acc ++ [q]) hs
   have e3:runE (q :: E) L = runE E L:=by show runE E (q.takes L).2 = _;rw [e2]
   rw [e1,e2,e3]
   refine ⟨g1,q :: qs',?_,.keep g3,?_⟩
   ·rw [List.foldl_cons,e1,g2];simp
   ·rw [List.length_cons,List.length_cons];omega
 | @drop q E qs hq h ih =>
  intro L acc hs
  have ih:=ih (fun q hq => hw q (List.mem_cons_of_mem _ hq))
  have e2:(q.takes L).2 = L:=by rw [hq L hs]
  have e3:runE (q :: E) L = runE E L:=by show runE E (q.takes L).2 = _;rw [e2]
  rw [e3]
  obtain ⟨g1,qs',g2,g3,g4⟩:=ih L acc hs
  exact ⟨g1,qs',g2,.drop (hq.mono fun x hx => runE_sub E L x (hs x hx)) g3,g4⟩
def takesD (L:List ByteArray) (x:Lt):List ByteArray:=if x.k = 3∧x.r = 1 then (x.eqn.takes L).2 else L
def roundD (b:List Lt) (L:List ByteArray):List ByteArray:=b.foldl takesD L
def isEq (x:Lt):Bool:=decide (¬ x.k = 1∧x.k = 3∧x.r = 1)
def eqnsB (b:List Lt):List Eqn:=(b.filter isEq).map Lt.eqn
theorem eqnsB_wf (b:List Lt):∀ q ∈ eqnsB b,q.wf:=fun q hq => by
 obtain ⟨x,_,rfl⟩:=List.mem_map.1 hq
 exact x.eqn_wf
theorem roundD_run:∀ (b:List Lt) (L:List ByteArray),roundD b L = runE (eqnsB b) L
 | [],L => rfl
 | x :: r,L => by
  show roundD r (takesD L x) = _
  rw [roundD_run r]
  unfold takesD eqnsB
  rw [List.filter_cons]
  by_cases h:x.k = 3∧x.r = 1
  ·have h1:isEq x = true:=decide_eq_true ⟨by rw [h.1];decide,h⟩
   rw [if_pos h,if_pos h1]
   rfl
  ·have h1:¬ isEq x = true:=fun h9 => h (of_decide_eq_true h9).2
   rw [if_neg h,if_neg h1]
def atomsD (b:List Lt):List ByteArray:=b.foldl (fun L x => if x.k = 1 then (tmVars x.a).foldl addF L else L) []
theorem begin_at:∀ (b:List Lt) (s:List Eqn × List ByteArray),(b.foldl stepB s).1 = s.1 ++ eqnsB b∧(b.foldl stepB s).2 = b.foldl (fun L x => if x.k = 1 then (tmVars x.a).foldl addF L else L) s.2
 | [],s => by simp [eqnsB]
 | x :: r,s => by
  obtain ⟨h1,h2⟩:=begin_at r (stepB s x)
  rw [List.foldl_cons,h1,h2,List.foldl_cons]
  unfold stepB eqnsB
  rw [List.filter_cons]
  by_cases c1:x.k = 1
  ·have h1:¬ isEq x = true:=fun h9 => (of_decide_eq_true h9).1 c1
   rw [if_pos c1,if_pos c1,if_neg h1]
   exact ⟨rfl,rfl⟩
  ·by_cases c2:x.k = 3∧x.r = 1
   ·have h1:isEq x = true:=decide_eq_true ⟨c1,c2⟩
    rw [if_neg c1,if_neg c1,if_pos c2,if_pos h1]
    exact ⟨by simp,rfl⟩
   ·have h1:¬ isEq x = true:=fun h9 => c2 (of_decide_eq_true h9).2
    rw [if_neg c1,if_neg c1,if_neg c2,if_neg h1]
    exact ⟨rfl,rfl⟩
theorem begin_eq (b:List Lt):beginB b = (eqnsB b,atomsD b):=by
 obtain ⟨h1,h2⟩:=begin_at b ([],[])
 unfold beginB
 exact Prod.ext (by rw [h1];rfl) h2
def LimD (b:List Lt) (L:List ByteArray) (n:Nat):Prop:=∃ qs,Thin L (eqnsB b) qs∧qs.length = n∧limitsB b = loopE (n + 1) qs L
theorem LimD.start (b:List Lt):LimD b (atomsD b) (eqnsB b).length:=⟨eqnsB b,Thin.refl _ _,rfl,by unfold limitsB;rw [begin_eq]⟩
theorem LimD.round {b:List Lt} {L:List ByteArray} {n:Nat} (h:LimD b L n) :
    ∃ m,m + (roundD b L).length = n + L.length∧((roundD b L).length = L.length→roundD b L = limitsB b)∧(¬ (roundD b L).length = L.length→LimD b (roundD b L) m∧m < n):=by
 obtain ⟨qs,h1,rfl,h2⟩:=h
 obtain ⟨g1,qs',g2,g3,g4⟩:=h1.round (eqnsB_wf b) L [] (fun x h => h)
 have e1:(roundE qs L).1 = qs':=by unfold roundE;rw [g2];rfl
 have e2:(roundE qs L).2 = roundD b L:=by rw [roundD_run];exact g1
 rw [roundD_run] at *
 have hsub:=roundE_len qs L
 rw [e1] at hsub
 refine ⟨qs'.length,g4,fun he => ?_,fun hne => ?_⟩
 ·have h3:¬ (roundE qs L).1.length < qs.length:=by rw [e1];omega
  rw [h2,loopE_stop h3,e2]
 ·have h3:(roundE qs L).1.length < qs.length:=by rw [e1];omega
  refine ⟨⟨qs',g3,rfl,?_⟩,by rw [e1] at h3;exact h3⟩
  rw [h2,loopE_go h3,e1,e2]
theorem eqnsB_len (b:List Lt):(eqnsB b).length ≤ b.length:=by
 unfold eqnsB
 rw [List.length_map]
 exact List.length_filter_le _ _
theorem atomsD_len (b:List Lt):(atomsD b).length ≤ (b.flatMap Lt.vs).length:=by
 have h1:=(foldB_len b ([],[])).2
 obtain ⟨_,h2⟩:=begin_at b ([],[])
 rw [h2] at h1
 simpa [atomsD] using h1
theorem atomsD_filter (b:List Lt):limitsB (b.filter isP) = atomsD b:=by
 have h0:∀ (b:List Lt) (L:List ByteArray),(b.filter isP).foldl (fun L x => if x.k = 1 then (tmVars x.a).foldl addF L else L) L = b.foldl (fun L x => if x.k = 1 then (tmVars x.a).foldl addF L else L) L:=by
  intro b
  induction b with
  | nil => intro L;rfl
  | cons x r ih =>
   intro L
   rw [List.filter_cons,List.foldl_cons]
   by_cases c:x.k = 1
   ·have h1:isP x = true:=decide_eq_true c
    rw [if_pos h1,List.foldl_cons,ih]
   ·have h1:¬ isP x = true:=fun h => c (of_decide_eq_true h)
    rw [if_neg h1,ih,if_neg c]
 have h1:eqnsB (b.filter isP) = []:=by
  unfold eqnsB
  rw [List.filter_filter,List.map_eq_nil_iff,List.filter_eq_nil_iff]
  intro x _ h
  rw [Bool.and_eq_true] at h
  exact (of_decide_eq_true h.1).1 (of_decide_eq_true h.2)
 unfold limitsB
 rw [begin_eq,h1]
 show loopE 1 [] (atomsD (b.filter isP)) = _
 have h2:atomsD (b.filter isP) = atomsD b:=h0 b []
 rw [h2]
 rfl
end Go.Proofs.YtobabnpllokkaaaGreatDoor
