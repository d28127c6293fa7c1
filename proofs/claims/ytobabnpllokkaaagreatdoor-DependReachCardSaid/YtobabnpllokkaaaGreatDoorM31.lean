/- Parts. -/
import Derived.Test.YtobabnpllokkaaaGreatDoorRows
import Derived.Test.YtobabnpllokkaaaGreatDoorProg
import Derived.Test.YtobabnpllokkaaaGreatDoorChecked
import Derived.JoinedOf
import Derived.SevenTiedAt
import Derived.Lay
import Derived.ChangeMaps5
import Derived.Test.YtobabnpllokkaaaGreatDoorM13
import Derived.Test.YtobabnpllokkaaaGreatDoorM18
import Derived.Test.YtobabnpllokkaaaGreatDoorM29
import Derived.Test.YtobabnpllokkaaaGreatDoorM23
import Derived.Test.YtobabnpllokkaaaGreatDoorM30
import Derived.Test.YtobabnpllokkaaaGreatDoorM19
set_option linter.unusedSimpArgs false
set_option linter.unusedVariables false
namespace Go.Proofs.YtobabnpllokkaaaGreatDoor
open Go.RowKit Go.WideMaps Go.Maps
theorem within_fitsT {rs:List Ru} (h:Within rs):rs.length ≤ 1048576∧∀ r ∈ rs,r.fits:=by
 have hlen:∀ l:List Ru,l.length ≤ (l.map Ru.parts).sum:=fun l => by
  induction l with
  | nil => simp
  | cons r l ih =>
   rw [List.map_cons,List.sum_cons,List.length_cons]
   have h9:r.parts = 1 + r.h.length + (r.b.map Lt.parts).sum:=rfl
   omega
 have h1:=hlen rs
 have h2:=h.1
 refine ⟨by omega,fun r hr => ?_⟩
 have h3:=sum_mem Ru.parts hr
 have h4:r.parts = 1 + r.h.length + (r.b.map Lt.parts).sum:=rfl
 have h5:r.b.length ≤ (r.b.map Lt.parts).sum:=by
  induction r.b with
  | nil => simp
  | cons x l ih =>
   rw [List.map_cons,List.sum_cons,List.length_cons]
   have h9:x.parts = 1 + x.a.length + x.l.size + x.d.size:=rfl
   omega
 refine ⟨by omega,by omega,fun l hl => ?_⟩
 have h6:=sum_mem Lt.parts hl
 have h7:l.parts = 1 + l.a.length + l.l.size + l.d.size:=rfl
 exact ⟨by omega,by omega,by omega⟩
theorem within_smT {rs:List Ru} (h:Within rs):Small rs:=by
 unfold Small
 have:=h.1
 omega
theorem snoc_lenT {α:Type} {f:Nat→List α} {n N:Nat} {ys:List α} (h:∀ i,(f i).length + 70 ≤ N) (hy:ys.length + 70 ≤ N):∀ i,(snocF f n ys i).length + 70 ≤ N:=fun i => by
 unfold snocF;split
 ·exact hy
 ·exact h i
theorem nms3 {w:World} {b:Nat} {t:TypeId} {x y z:ByteArray} (h:w.heap[b]? = some (.cells #[.string x,.string y,.string z] t (0,0))):SlRep 1 3 RNm w (.slice (some ⟨b,0,none⟩) 3 3) [x,y,z]:=by
 refine ⟨_,3,rfl,Nat.le_refl _,Nat.le_refl _,fun i u hu => ?_⟩
 match i,hu with
 | 0,hu => injection hu with hu;subst hu;exact ⟨b,0,[.string x],rfl,rfl,fun j v hj => (by match j,hj with | 0,hj => injection hj with hj;subst hj;exact cell_at h 0 _ rfl | j + 1,hj => simp at hj),rfl⟩
 | 1,hu => injection hu with hu;subst hu;exact ⟨b,0,[.string y],rfl,rfl,fun j v hj => (by match j,hj with | 0,hj => injection hj with hj;subst hj;exact cell_at h 1 _ rfl | j + 1,hj => simp at hj),rfl⟩
 | 2,hu => injection hu with hu;subst hu;exact ⟨b,0,[.string z],rfl,rfl,fun j v hj => (by match j,hj with | 0,hj => injection hj with hj;subst hj;exact cell_at h 2 _ rfl | j + 1,hj => simp at hj),rfl⟩
 | i + 3,hu => simp at hu
set_option maxHeartbeats 8000000 in
set_option maxRecDepth 100000 in
theorem reach_law {M:Nat} (a:Value) (rs:List Ru) (p:ByteArray) (w:World) (h:SlRep 3 M RRu w a rs) (hM:M ≤ 9223372036854775807) (hP:Pows w) (hp:p.size ≤ 140737488351232) :
    Calls Tryz.prog 5 #[a,.string p] w fun e w' => e = .returned (.bool true)∧Fut w w':=by
 have HB:=Lib.hid (beyondR_any a rs w h hM)
 obtain ⟨A,c,rfl,hl1,hl2⟩:=h.form
 have hxl:rs.length ≤ 9223372036854775807:=by omega
 have H:=Lib.hid h
 have HP:=Lib.hid hP
 clear hl1 hl2 h hP
 go_enter Tryz.func5,Tryz.ntmps5
 go_wp2_with fail
 refine HB.out.mono ?_
 rintro e w1 ⟨b,rfl,hb,f1⟩
 cases b
 rotate_left
 ·go_wp2
  go_ret
  exact ⟨rfl,f1⟩
 have hW:=hb rfl
 obtain ⟨hn,hfit⟩:=within_fitsT hW
 have hn:=Lib.hid hn
 have hS:=Lib.hid (within_smT hW)
 have hS2:=Lib.hid (small_rev hW.1)
 have HT:=Lib.hid (twinRus_any rs A c w1 (HP.out.fut f1) (H.out.fut RRu.stays f1) (by have:=hn.out;omega) hfit)
 have hfit':=Lib.hid hfit
 have F1:=Lib.hid f1
 clear hb hW HB f1 hfit
 go_wp2_with fail
 refine HT.out.mono ?_
 rintro e w2 ⟨tv,rfl,ht,f2⟩
 obtain ⟨g,hg,hu⟩:=ht.slU H.out (by have:=hn.out;omega) hfit'.out
 have htv:=hu.1
 subst htv
 have HTw:=Lib.hid ht
 have HU:=Lib.hid hu
 have Fw:=Lib.hid (F1.out.trans f2)
 have hgz:=Lib.hid (show w.heap.size ≤ g from Nat.le_trans F1.out.size hg)
 have hgl:=Lib.hid hu.lt
 have H2:=Lib.hid (H.out.fut RRu.stays Fw.out)
 have HP2:=Lib.hid (HP.out.fut Fw.out)
 clear hu ht f2 HT hg F1
 have hso:=Lib.hid (show Small otherP by unfold Small;decide)
 have F2:=Lib.hid (Fut.refl w2)
 have HRt:=Lib.hid (show SlRep 3 100000001 RRu w2 (.slice (some ⟨g,0,none⟩) rs.length (rs.length + 1)) rs from HU.out.rep)
 have HCw:=Lib.hid (rReach9_any A c rs p w2 H2.out hM hS.out)
 go_wp2_with fail
 refine HCw.out.mono ?_
 rintro e w3 ⟨vw,es,rfl,hRw,how,f3⟩
 have HAw:=Lib.hid hRw
 clear hRw
 obtain ⟨Aw,cw,rfl,_,_⟩:=how.rep.form
 have Bw:=Lib.hid how.block
 have Ow:=Lib.hid (how.base (F2.out.size))
 have S3:=Lib.hid f3.size
 have F3:=Lib.hid (F2.out.trans f3)
 clear how f3 HCw
 have HCa:=Lib.hid (reachW_any (some ⟨g,0,none⟩) (rs.length + 1) rs p w3 (HRt.out.fut RRu.stays F3.out) (by decide) hS.out hp)
 go_wp2_with fail
 refine HCa.out.mono ?_
 rintro e w4 ⟨va,la,rfl,hRa,hoa,f4⟩
 obtain rfl:=HAw.out.uniq hRa
 clear hRa
 obtain ⟨Aa,ca,rfl,_,_⟩:=hoa.rep.form
 have Ba:=Lib.hid hoa.block
 have Oa:=Lib.hid (hoa.base (F3.out.size))
 have S4:=Lib.hid f4.size
 have F4:=Lib.hid (F3.out.trans f4)
 have Ow:=Lib.hid (Ow.out.fut RNm.stays f4)
 clear hoa f4 HCa
 have HCb:=Lib.hid (reachW_any (some ⟨g,0,none⟩) (rs.length + 1) rs p w4 (HRt.out.fut RRu.stays F4.out) (by decide) hS.out hp)
 go_wp2_with fail
 refine HCb.out.mono ?_
 rintro e w5 ⟨vb,lb,rfl,hRb,hob,f5⟩
 obtain rfl:=HAw.out.uniq hRb
 clear hRb
 obtain ⟨Ab,cb,rfl,_,_⟩:=hob.rep.form
 have Bb:=Lib.hid hob.block
 have Ob:=Lib.hid (hob.base (F4.out.size))
 have S5:=Lib.hid f5.size
 have F5:=Lib.hid (F4.out.trans f5)
 have Ow:=Lib.hid (Ow.out.fut RNm.stays f5)
 have Oa:=Lib.hid (Oa.out.fut RNm.stays f5)
 clear hob f5 HCb
 go_wp2_with fail
 refine (other_any _).mono ?_
 rintro e w6 ⟨Az6,rfl,hz6,f6⟩
 have Z6:=Lib.hid hz6
 have S6:=Lib.hid f6.size
 have F6:=Lib.hid (F5.out.trans f6)
 have Ow:=Lib.hid (Ow.out.fut RNm.stays f6)
 have Oa:=Lib.hid (Oa.out.fut RNm.stays f6)
 have Ob:=Lib.hid (Ob.out.fut RNm.stays f6)
 clear hz6 f6
 have HCo:=Lib.hid (reachW_any Az6 2 otherP zB w6 Z6.out (by decide) hso.out (by decide))
 go_wp2_with fail
 refine HCo.out.mono ?_
 rintro e w7 ⟨vo,eo,rfl,hRo,hoo,f7⟩
 have HAo:=Lib.hid hRo
 clear hRo
 obtain ⟨Ao,co,rfl,_,_⟩:=hoo.rep.form
 have Bo:=Lib.hid hoo.block
 have Oo:=Lib.hid (hoo.base (F6.out.size))
 have S7:=Lib.hid f7.size
 have F7:=Lib.hid (F6.out.trans f7)
 have Ow:=Lib.hid (Ow.out.fut RNm.stays f7)
 have Oa:=Lib.hid (Oa.out.fut RNm.stays f7)
 have Ob:=Lib.hid (Ob.out.fut RNm.stays f7)
 clear hoo f7 HCo
 have HX8:=Lib.hid (sameTx_any _ _ es w7 Oa.out.rep Ow.out.rep (by decide))
 go_wp2_with fail
 refine HX8.out.mono ?_
 rintro e w8 ⟨rfl,f8⟩
 have S8:=Lib.hid f8.size
 have F8:=Lib.hid (F7.out.trans f8)
 have Ow:=Lib.hid (Ow.out.fut RNm.stays f8)
 have Oa:=Lib.hid (Oa.out.fut RNm.stays f8)
 have Ob:=Lib.hid (Ob.out.fut RNm.stays f8)
 have Oo:=Lib.hid (Oo.out.fut RNm.stays f8)
 clear f8 HX8
 have HX9:=Lib.hid (sameTx_any _ _ es w8 Ob.out.rep Ow.out.rep (by decide))
 go_wp2_with fail
 refine HX9.out.mono ?_
 rintro e w9 ⟨rfl,f9⟩
 have S9:=Lib.hid f9.size
 have F9:=Lib.hid (F8.out.trans f9)
 have Ow:=Lib.hid (Ow.out.fut RNm.stays f9)
 have Oa:=Lib.hid (Oa.out.fut RNm.stays f9)
 have Ob:=Lib.hid (Ob.out.fut RNm.stays f9)
 have Oo:=Lib.hid (Oo.out.fut RNm.stays f9)
 clear f9 HX9
 have heo:=Lib.hid (reach_other HAo.out)
 have FL:=Fut.alloc w9 (.cells #[.string ⟨#[120]⟩,.string ⟨#[121]⟩,.string ⟨#[122]⟩] 9)
 have HXl:=Lib.hid (sameTx_any (.slice Ao eo.length co) (.slice (some ⟨w9.heap.size,0,none⟩) 3 3) eo (w9.alloc (.cells #[.string ⟨#[120]⟩,.string ⟨#[121]⟩,.string ⟨#[122]⟩] 9)) (Oo.out.rep.fut RNm.stays FL) (show SlRep 1 3 RNm (w9.alloc (.cells #[.string ⟨#[120]⟩,.string ⟨#[121]⟩,.string ⟨#[122]⟩] 9)) (.slice (some ⟨w9.heap.size,0,none⟩) 3 3) eo from by rw [heo.out];exact nms3 (heap_alloc_new w9 _)) (by decide))
 go_wp2_with fail
 refine HXl.out.mono ?_
 rintro e w10 ⟨rfl,f10⟩
 replace f10:=FL.trans f10
 have S10:=Lib.hid f10.size
 have F10:=Lib.hid (F9.out.trans f10)
 have Ow:=Lib.hid (Ow.out.fut RNm.stays f10)
 have Oa:=Lib.hid (Oa.out.fut RNm.stays f10)
 have Ob:=Lib.hid (Ob.out.fut RNm.stays f10)
 have Oo:=Lib.hid (Oo.out.fut RNm.stays f10)
 clear f10 HXl FL heo
 have HLe:=Lib.hid (leftRus_any rs _ _ w10 (HP2.out.fut F10.out) (HTw.out.keep F10.out) (H2.out.fut RRu.stays F10.out) (by have:=hn.out;omega) hfit'.out)
 go_wp2_with fail
 refine HLe.out.mono ?_
 rintro e w13 ⟨rfl,f13⟩
 have S13:=Lib.hid f13.size
 have F13:=Lib.hid (F10.out.trans f13)
 have Ow:=Lib.hid (Ow.out.fut RNm.stays f13)
 have Oa:=Lib.hid (Oa.out.fut RNm.stays f13)
 have Ob:=Lib.hid (Ob.out.fut RNm.stays f13)
 have Oo:=Lib.hid (Oo.out.fut RNm.stays f13)
 clear f13 HLe HTw
 have HCc:=Lib.hid (reachW_any (some ⟨g,0,none⟩) (rs.length + 1) rs p w13 (HRt.out.fut RRu.stays F13.out) (by decide) hS.out hp)
 go_wp2_with fail
 refine HCc.out.mono ?_
 rintro e w14 ⟨vc,lc,rfl,hRc,hoc,f14⟩
 obtain rfl:=HAw.out.uniq hRc
 clear hRc
 obtain ⟨Ac,cc,rfl,_,_⟩:=hoc.rep.form
 have Bc:=Lib.hid hoc.block
 have Oc:=Lib.hid (hoc.base (F13.out.size))
 have S14:=Lib.hid f14.size
 have F14:=Lib.hid (F13.out.trans f14)
 have Ow:=Lib.hid (Ow.out.fut RNm.stays f14)
 have Oa:=Lib.hid (Oa.out.fut RNm.stays f14)
 have Ob:=Lib.hid (Ob.out.fut RNm.stays f14)
 have Oo:=Lib.hid (Oo.out.fut RNm.stays f14)
 clear hoc f14 HCc
 clear Ow
 by_cases h0:0 < rs.length
 ·have h0I:(rs.length:Int) > 0:=by omega
  obtain ⟨m,hm⟩:∃ m,rs.length = m + 1:=⟨rs.length - 1,by omega⟩
  have hml:m < rs.length:=by omega
  have e64:(rs.length:Int) - 1 = (m:Int):=by omega
  have e0:(0:Int) ≤ m∧(m:Int) < rs.length:=by omega
  clear hm
  obtain ⟨⟨c0,hc0⟩,hz0,hu3,hO3⟩:=(HU.out.fut F14.out).name m hml p hp
  obtain ⟨hR1,hR2,hR3⟩:=named_ok m p hml
  obtain ⟨R,hR⟩:∃ R,rs.set m { rs[m] with p:=p } = R:=⟨_,rfl⟩
  rw [hR] at hu3 hR1 hR2 hR3
  have hRl:=Lib.hid hR1
  have hRf:=Lib.hid (hR3 hfit'.out)
  have hSR:=Lib.hid (show Small R by unfold Small;rw [hR2];exact hS.out)
  clear hR hR1 hR2 hR3
  go_wp2_with fail
  obtain ⟨w15,hw15⟩:∃ W,w14.setCell ⟨g,m * 3,none⟩ (.string p) = W:=⟨_,rfl⟩
  rw [hw15] at hu3 hO3 ⊢
  clear hw15 hc0 hz0
  have hD:∀ k,w2.heap.size ≤ k→¬ k = g:=fun k hk e => by have:=hgl.out;omega
  have S15:=Lib.hid hO3.size
  have Ft:=Lib.hid (show Fut w w15 from ((Only.fut (S:=fun k => k = g) (Fw.out.trans F14.out)).trans hO3).toFut fun k hk => by have:=hgz.out;omega)
  have N15:=Lib.hid (show w2.heap.size ≤ w15.heap.size from Nat.le_trans F14.out.size hO3.size)
  have Oa:=Lib.hid (Oa.out.only (RNm.same _ _) hO3 fun k hk => hD k (Oa.out.block k hk).1)
  have Ob:=Lib.hid (Ob.out.only (RNm.same _ _) hO3 fun k hk => hD k (Ob.out.block k hk).1)
  have Oo:=Lib.hid (Oo.out.only (RNm.same _ _) hO3 fun k hk => hD k (Oo.out.block k hk).1)
  have Oc:=Lib.hid (Oc.out.only (RNm.same _ _) hO3 fun k hk => hD k (Oc.out.block k hk).1)
  clear hO3 hD F14
  have HRr:=Lib.hid (show SlRep 3 100000001 RRu w15 (.slice (some ⟨g,0,none⟩) R.length (rs.length + 1)) R from by have h9:=hu3.rep;rw [hu3.1] at h9;rw [hRl.out] at h9 ⊢;exact h9)
  have F15:=Lib.hid (Fut.refl w15)
  clear hu3
  have HT2:=Lib.hid (by have h9:=twinRus_any R (some ⟨g,0,none⟩) (rs.length + 1) w15 (HP.out.fut Ft.out) HRr.out (by rw [hRl.out];have:=hn.out;omega) hRf.out;rw [hRl.out] at h9;exact h9)
  go_wp2_with fail
  refine HT2.out.mono ?_
  rintro e w16 ⟨tv2,rfl,ht2,f16⟩
  obtain ⟨g2,hg2,hu2⟩:=ht2.slU HRr.out (by rw [hRl.out];have:=hn.out;omega) hRf.out
  have htv2:=hu2.1
  subst htv2
  have HR2:=Lib.hid hu2.rep
  have S16:=Lib.hid f16.size
  have F16:=Lib.hid (F15.out.trans f16)
  have Oa:=Lib.hid (Oa.out.fut RNm.stays f16)
  have Ob:=Lib.hid (Ob.out.fut RNm.stays f16)
  have Oo:=Lib.hid (Oo.out.fut RNm.stays f16)
  have Oc:=Lib.hid (Oc.out.fut RNm.stays f16)
  clear ht2 f16 HT2 hg2 hu2
  have HCq:=Lib.hid (rReach9_any (some ⟨g2,0,none⟩) (R.length + 1) R p w16 HR2.out (by decide) hSR.out)
  go_wp2_with fail
  refine HCq.out.mono ?_
  rintro e w17 ⟨vq,er,rfl,hRq,hoq,f17⟩
  have HAq:=Lib.hid hRq
  clear hRq
  obtain ⟨Aq,cq,rfl,_,_⟩:=hoq.rep.form
  have Bq:=Lib.hid hoq.block
  have Oq:=Lib.hid (hoq.base (Nat.le_trans N15.out F16.out.size))
  have S17:=Lib.hid f17.size
  have F17:=Lib.hid (F16.out.trans f17)
  have Oa:=Lib.hid (Oa.out.fut RNm.stays f17)
  have Ob:=Lib.hid (Ob.out.fut RNm.stays f17)
  have Oo:=Lib.hid (Oo.out.fut RNm.stays f17)
  have Oc:=Lib.hid (Oc.out.fut RNm.stays f17)
  clear hoq f17 HCq
  have HCd:=Lib.hid (by have h9:=reachW_any (some ⟨g,0,none⟩) (rs.length + 1) R p w17 (HRr.out.fut RRu.stays F17.out) (by decide) hSR.out hp;rw [hRl.out] at h9;exact h9)
  go_wp2_with fail
  refine HCd.out.mono ?_
  rintro e w18 ⟨vd,ld,rfl,hRd,hod,f18⟩
  obtain rfl:=HAq.out.uniq hRd
  clear hRd
  obtain ⟨Ad,cd,rfl,_,_⟩:=hod.rep.form
  have Bd:=Lib.hid hod.block
  have Od:=Lib.hid (hod.base (Nat.le_trans N15.out F17.out.size))
  have S18:=Lib.hid f18.size
  have F18:=Lib.hid (F17.out.trans f18)
  have Oa:=Lib.hid (Oa.out.fut RNm.stays f18)
  have Ob:=Lib.hid (Ob.out.fut RNm.stays f18)
  have Oo:=Lib.hid (Oo.out.fut RNm.stays f18)
  have Oc:=Lib.hid (Oc.out.fut RNm.stays f18)
  have Oq:=Lib.hid (Oq.out.fut RNm.stays f18)
  clear hod f18 HCd
  have HX19:=Lib.hid (sameTx_any _ _ er w18 Od.out.rep Oq.out.rep (by decide))
  go_wp2_with fail
  refine HX19.out.mono ?_
  rintro e w19 ⟨rfl,f19⟩
  have S19:=Lib.hid f19.size
  have F19:=Lib.hid (F18.out.trans f19)
  have Oa:=Lib.hid (Oa.out.fut RNm.stays f19)
  have Ob:=Lib.hid (Ob.out.fut RNm.stays f19)
  have Oo:=Lib.hid (Oo.out.fut RNm.stays f19)
  have Oc:=Lib.hid (Oc.out.fut RNm.stays f19)
  have Oq:=Lib.hid (Oq.out.fut RNm.stays f19)
  have Od:=Lib.hid (Od.out.fut RNm.stays f19)
  clear f19 HX19
  clear Oq
  have HX20:=Lib.hid (sameTx_any _ _ es w19 Oc.out.rep Oa.out.rep (by decide))
  go_wp2_with fail
  refine HX20.out.mono ?_
  rintro e w20 ⟨rfl,f20⟩
  have S20:=Lib.hid f20.size
  have F20:=Lib.hid (F19.out.trans f20)
  have Oa:=Lib.hid (Oa.out.fut RNm.stays f20)
  have Ob:=Lib.hid (Ob.out.fut RNm.stays f20)
  have Oo:=Lib.hid (Oo.out.fut RNm.stays f20)
  have Oc:=Lib.hid (Oc.out.fut RNm.stays f20)
  have Od:=Lib.hid (Od.out.fut RNm.stays f20)
  clear f20 HX20
  go_wp2_with fail
  have hB:=heap_alloc_new w20 (.cells #[Value.int IntKind.i64 0,Value.slice none 0 0,Value.slice none 0 0,Value.slice none 0 0,Value.slice none 0 0,Value.slice none 0 0,Value.slice none 0 0,Value.slice none 0 0,Value.slice none 0 0,Value.slice none 0 0,Value.slice none 0 0,Value.slice none 0 0,Value.slice none 0 0,Value.slice none 0 0,Value.slice none 0 0,Value.slice none 0 0,Value.slice none 0 0,Value.slice none 0 0,Value.slice none 0 0,Value.slice none 0 0,Value.slice none 0 0,Value.slice none 0 0,Value.slice none 0 0,Value.slice none 0 0,Value.slice none 0 0,Value.slice none 0 0,Value.slice none 0 0,Value.slice none 0 0,Value.slice none 0 0,Value.slice none 0 0,Value.slice none 0 0,Value.slice none 0 0] 65)
  have F21:=Fut.alloc w20 (.cells #[Value.int IntKind.i64 0,Value.slice none 0 0,Value.slice none 0 0,Value.slice none 0 0,Value.slice none 0 0,Value.slice none 0 0,Value.slice none 0 0,Value.slice none 0 0,Value.slice none 0 0,Value.slice none 0 0,Value.slice none 0 0,Value.slice none 0 0,Value.slice none 0 0,Value.slice none 0 0,Value.slice none 0 0,Value.slice none 0 0,Value.slice none 0 0,Value.slice none 0 0,Value.slice none 0 0,Value.slice none 0 0,Value.slice none 0 0,Value.slice none 0 0,Value.slice none 0 0,Value.slice none 0 0,Value.slice none 0 0,Value.slice none 0 0,Value.slice none 0 0,Value.slice none 0 0,Value.slice none 0 0,Value.slice none 0 0,Value.slice none 0 0,Value.slice none 0 0] 65)
  obtain ⟨w21,hW⟩:∃ W,w20.alloc (.cells #[Value.int IntKind.i64 0,Value.slice none 0 0,Value.slice none 0 0,Value.slice none 0 0,Value.slice none 0 0,Value.slice none 0 0,Value.slice none 0 0,Value.slice none 0 0,Value.slice none 0 0,Value.slice none 0 0,Value.slice none 0 0,Value.slice none 0 0,Value.slice none 0 0,Value.slice none 0 0,Value.slice none 0 0,Value.slice none 0 0,Value.slice none 0 0,Value.slice none 0 0,Value.slice none 0 0,Value.slice none 0 0,Value.slice none 0 0,Value.slice none 0 0,Value.slice none 0 0,Value.slice none 0 0,Value.slice none 0 0,Value.slice none 0 0,Value.slice none 0 0,Value.slice none 0 0,Value.slice none 0 0,Value.slice none 0 0,Value.slice none 0 0,Value.slice none 0 0] 65) = W:=⟨_,rfl⟩
  rw [hW] at hB F21 ⊢
  clear hW
  have Ka:=Oa.out.fut RNm.stays F21
  have Kb:=Ob.out.fut RNm.stays F21
  have Ko:=Oo.out.fut RNm.stays F21
  have Kc:=Oc.out.fut RNm.stays F21
  have Kd:=Od.out.fut RNm.stays F21
  have BK0:Hid (BkText w2.heap.size w20.heap.size w21 w21 0 (fun _ => .slice none 0 0) [] (fun _ => [])):=Lib.hid ⟨B1Text.new (book_new hB rfl) (Nat.le_trans N15.out (Nat.le_trans F20.out.size F21.size)) _,fun j y hy => (by cases hy),Only.refl _⟩
  have IK:=Lib.hid (And.intro Ka (And.intro Kb (And.intro Ko (And.intro Kc Kd))))
  have FB:=Lib.hid F21
  obtain ⟨bb,hbb⟩:∃ q,w20.heap.size = q:=⟨_,rfl⟩
  have SZ:=Lib.hid (show w3.heap.size ≤ w4.heap.size∧w4.heap.size ≤ w5.heap.size∧w5.heap.size ≤ w6.heap.size∧w6.heap.size ≤ w7.heap.size∧w7.heap.size ≤ w13.heap.size∧w13.heap.size ≤ w14.heap.size∧w14.heap.size ≤ w17.heap.size∧w17.heap.size ≤ w18.heap.size∧w18.heap.size ≤ w20.heap.size from by have q4:=S4.out;have q5:=S5.out;have q6:=S6.out;have q7:=S7.out;have q8:=S8.out;have q9:=S9.out;have q10:=S10.out;have q13:=S13.out;have q14:=S14.out;have q15:=S15.out;have q16:=S16.out;have q17:=S17.out;have q18:=S18.out;have q19:=S19.out;have q20:=S20.out;omega)
  rw [hbb] at BK0 SZ ⊢
  have hbb:=Lib.hid hbb
  clear hB F21 Ka Kb Ko Kc Kd Oa Ob Oo Oc Od S3 S4 S5 S6 S7 S8 S9 S10 S13 S14 S15 S16 S17 S18 S19 S20
  go_wp2_with fail
  refine (BK0.out.put (by omega) (by simp) IK.out.1 (fun k hk => by have q3:=Ba.out k hk;have q1:=SZ.out;omega) (fun k hk h => ownsL_nil h)).mono ?_
  rintro e w22 ⟨⟨u0,rfl⟩,vs0,h1⟩
  have BK1:=Lib.hid h1
  clear h1 BK0
  go_wp2_with fail
  refine (BK1.out.put (by omega) (by simp) IK.out.2.1 (fun k hk => by have q3:=Bb.out k hk;have q1:=SZ.out;omega) (fun k hk h => by
   simp only [ownsL_snoc,ownsL_nil,false_or] at h
   have q2:=Ba.out k h;have q3:=Bb.out k hk;have q1:=SZ.out;omega)).mono ?_
  rintro e w23 ⟨⟨u1,rfl⟩,vs1,h1⟩
  have BK2:=Lib.hid h1
  clear h1 BK1
  go_wp2_with fail
  refine (BK2.out.put (by omega) (by simp) IK.out.2.2.1 (fun k hk => by have q3:=Bo.out k hk;have q1:=SZ.out;omega) (fun k hk h => by
   simp only [ownsL_snoc,ownsL_nil,false_or] at h
   rcases h with h | h
   ·have q2:=Ba.out k h;have q3:=Bo.out k hk;have q1:=SZ.out;omega
   ·have q2:=Bb.out k h;have q3:=Bo.out k hk;have q1:=SZ.out;omega)).mono ?_
  rintro e w24 ⟨⟨u2,rfl⟩,vs2,h1⟩
  have BK3:=Lib.hid h1
  clear h1 BK2
  go_wp2_with fail
  refine (BK3.out.put (by omega) (by simp) IK.out.2.2.2.1 (fun k hk => by have q3:=Bc.out k hk;have q1:=SZ.out;omega) (fun k hk h => by
   simp only [ownsL_snoc,ownsL_nil,false_or] at h
   rcases h with (h | h) | h
   ·have q2:=Ba.out k h;have q3:=Bc.out k hk;have q1:=SZ.out;omega
   ·have q2:=Bb.out k h;have q3:=Bc.out k hk;have q1:=SZ.out;omega
   ·have q2:=Bo.out k h;have q3:=Bc.out k hk;have q1:=SZ.out;omega)).mono ?_
  rintro e w25 ⟨⟨u3,rfl⟩,vs3,h1⟩
  have BK4:=Lib.hid h1
  clear h1 BK3
  go_wp2_with fail
  refine (BK4.out.put (by omega) (by simp) IK.out.2.2.2.2 (fun k hk => by have q3:=Bd.out k hk;have q1:=SZ.out;omega) (fun k hk h => by
   simp only [ownsL_snoc,ownsL_nil,false_or] at h
   rcases h with ((h | h) | h) | h
   ·have q2:=Ba.out k h;have q3:=Bd.out k hk;have q1:=SZ.out;omega
   ·have q2:=Bb.out k h;have q3:=Bd.out k hk;have q1:=SZ.out;omega
   ·have q2:=Bo.out k h;have q3:=Bd.out k hk;have q1:=SZ.out;omega
   ·have q2:=Bc.out k h;have q3:=Bd.out k hk;have q1:=SZ.out;omega)).mono ?_
  rintro e w26 ⟨⟨u4,rfl⟩,vs4,h1⟩
  have BK5:=Lib.hid h1
  clear h1 BK4
  go_wp2_with fail
  have hesl:=Lib.hid (rch_len hS.out (up9_nodup HAw.out.1) fun x hx => (HAw.out.2 x).1 hx)
  have heol:=Lib.hid (rch_len hso.out (up9_nodup HAo.out.1) fun x hx => (HAo.out.2 x).1 hx)
  have herl:=Lib.hid (rch_len hSR.out (up9_nodup HAq.out.1) fun x hx => (HAq.out.2 x).1 hx)
  have hLe:es.length + 70 ≤ 8796093022207:=by have:=hesl.out;omega
  have hLo:eo.length + 70 ≤ 8796093022207:=by have:=heol.out;omega
  have hLr:er.length + 70 ≤ 8796093022207:=by have:=herl.out;omega
  refine (apartText_any BK5.out.b1 (fun i _ => snoc_lenT (snoc_lenT (snoc_lenT (snoc_lenT (snoc_lenT (by simp) hLe) hLe) hLo) hLe) hLr i) (fun W hW => HP.out.fut ((((Only.fut (S:=fun k => w.heap.size ≤ k) ((Ft.out.trans F20.out).trans FB.out)).trans (BK5.out.on.mono fun k hk _ => by have:=SZ.out;have:=N15.out;have:=F20.out.size;have:=hbb.out;have:=Fw.out.size;omega)).trans (hW.mono fun k _ hk => Nat.le_trans Fw.out.size hk)).toFut fun k hk => hk)) (fun i h hi => by have h9:=List.mem_of_getElem? hi;simp only [List.mem_append,List.mem_singleton,List.not_mem_nil,false_or] at h9;rcases h9 with (((rfl | rfl) | rfl) | rfl) | rfl <;> exact ⟨by dsimp only;omega,by dsimp only;omega⟩)).mono ?_
  rintro e w27 ⟨rfl,hO0⟩
  have hOA:Only (fun k => w2.heap.size ≤ k) w21 w27:=(BK5.out.on.mono (fun k hk _ => by have:=SZ.out;have:=N15.out;have:=F20.out.size;have:=hbb.out;omega)).trans (hO0.mono fun k _ hk => by
   rcases hk with h | h
   ·simp only [ownsL_snoc,ownsL_nil,false_or] at h
    rcases h with (((h | h) | h) | h) | h
    ·exact (IK.out.1.block k h).1
    ·exact (IK.out.2.1.block k h).1
    ·exact (IK.out.2.2.1.block k h).1
    ·exact (IK.out.2.2.2.1.block k h).1
    ·exact (IK.out.2.2.2.2.block k h).1
   ·have:=BK5.out.low 12 k h;have:=N15.out;have:=F20.out.size;have:=hbb.out;omega)
  have FE:=Lib.hid (show Fut w w27 from ((Only.fut (S:=fun k => w2.heap.size ≤ k) ((Ft.out.trans F20.out).trans FB.out)).trans hOA).toFut fun k hk => Nat.le_trans Fw.out.size hk)
  clear hO0 BK5 IK hOA
  go_wp2_with fail
  refine (lives9_any _).mono ?_
  rintro e w28 ⟨rfl,f28⟩
  go_wp2
  go_ret
  exact ⟨rfl,FE.out.trans f28⟩
 ·have h0I:¬ (rs.length:Int) > 0:=by omega
  obtain ⟨R,hR⟩:∃ R,R = rs:=⟨_,rfl⟩
  have hRl:=Lib.hid (show R.length = rs.length by rw [hR])
  have hRf:=Lib.hid (show ∀ x ∈ R,x.fits from hR ▸ hfit'.out)
  have hSR:=Lib.hid (show Small R from hR ▸ hS.out)
  obtain ⟨w15,hw15⟩:∃ W,W = w14:=⟨_,rfl⟩
  have hO3:Only (fun k => k = g) w14 w15:=hw15 ▸ Only.refl _
  have hu3:SlU g w15 (.slice (some ⟨g,0,none⟩) rs.length (rs.length + 1)) R:=by rw [hw15,hR];exact HU.out.fut F14.out
  rw [← hw15]
  clear hw15 hR
  go_wp2_with fail
  have hD:∀ k,w2.heap.size ≤ k→¬ k = g:=fun k hk e => by have:=hgl.out;omega
  have S15:=Lib.hid hO3.size
  have Ft:=Lib.hid (show Fut w w15 from ((Only.fut (S:=fun k => k = g) (Fw.out.trans F14.out)).trans hO3).toFut fun k hk => by have:=hgz.out;omega)
  have N15:=Lib.hid (show w2.heap.size ≤ w15.heap.size from Nat.le_trans F14.out.size hO3.size)
  have Oa:=Lib.hid (Oa.out.only (RNm.same _ _) hO3 fun k hk => hD k (Oa.out.block k hk).1)
  have Ob:=Lib.hid (Ob.out.only (RNm.same _ _) hO3 fun k hk => hD k (Ob.out.block k hk).1)
  have Oo:=Lib.hid (Oo.out.only (RNm.same _ _) hO3 fun k hk => hD k (Oo.out.block k hk).1)
  have Oc:=Lib.hid (Oc.out.only (RNm.same _ _) hO3 fun k hk => hD k (Oc.out.block k hk).1)
  clear hO3 hD F14
  have HRr:=Lib.hid (show SlRep 3 100000001 RRu w15 (.slice (some ⟨g,0,none⟩) R.length (rs.length + 1)) R from by have h9:=hu3.rep;rw [hu3.1] at h9;rw [hRl.out] at h9 ⊢;exact h9)
  have F15:=Lib.hid (Fut.refl w15)
  clear hu3
  have HT2:=Lib.hid (by have h9:=twinRus_any R (some ⟨g,0,none⟩) (rs.length + 1) w15 (HP.out.fut Ft.out) HRr.out (by rw [hRl.out];have:=hn.out;omega) hRf.out;rw [hRl.out] at h9;exact h9)
  go_wp2_with fail
  refine HT2.out.mono ?_
  rintro e w16 ⟨tv2,rfl,ht2,f16⟩
  obtain ⟨g2,hg2,hu2⟩:=ht2.slU HRr.out (by rw [hRl.out];have:=hn.out;omega) hRf.out
  have htv2:=hu2.1
  subst htv2
  have HR2:=Lib.hid hu2.rep
  have S16:=Lib.hid f16.size
  have F16:=Lib.hid (F15.out.trans f16)
  have Oa:=Lib.hid (Oa.out.fut RNm.stays f16)
  have Ob:=Lib.hid (Ob.out.fut RNm.stays f16)
  have Oo:=Lib.hid (Oo.out.fut RNm.stays f16)
  have Oc:=Lib.hid (Oc.out.fut RNm.stays f16)
  clear ht2 f16 HT2 hg2 hu2
  have HCq:=Lib.hid (rReach9_any (some ⟨g2,0,none⟩) (R.length + 1) R p w16 HR2.out (by decide) hSR.out)
  go_wp2_with fail
  refine HCq.out.mono ?_
  rintro e w17 ⟨vq,er,rfl,hRq,hoq,f17⟩
  have HAq:=Lib.hid hRq
  clear hRq
  obtain ⟨Aq,cq,rfl,_,_⟩:=hoq.rep.form
  have Bq:=Lib.hid hoq.block
  have Oq:=Lib.hid (hoq.base (Nat.le_trans N15.out F16.out.size))
  have S17:=Lib.hid f17.size
  have F17:=Lib.hid (F16.out.trans f17)
  have Oa:=Lib.hid (Oa.out.fut RNm.stays f17)
  have Ob:=Lib.hid (Ob.out.fut RNm.stays f17)
  have Oo:=Lib.hid (Oo.out.fut RNm.stays f17)
  have Oc:=Lib.hid (Oc.out.fut RNm.stays f17)
  clear hoq f17 HCq
  have HCd:=Lib.hid (by have h9:=reachW_any (some ⟨g,0,none⟩) (rs.length + 1) R p w17 (HRr.out.fut RRu.stays F17.out) (by decide) hSR.out hp;rw [hRl.out] at h9;exact h9)
  go_wp2_with fail
  refine HCd.out.mono ?_
  rintro e w18 ⟨vd,ld,rfl,hRd,hod,f18⟩
  obtain rfl:=HAq.out.uniq hRd
  clear hRd
  obtain ⟨Ad,cd,rfl,_,_⟩:=hod.rep.form
  have Bd:=Lib.hid hod.block
  have Od:=Lib.hid (hod.base (Nat.le_trans N15.out F17.out.size))
  have S18:=Lib.hid f18.size
  have F18:=Lib.hid (F17.out.trans f18)
  have Oa:=Lib.hid (Oa.out.fut RNm.stays f18)
  have Ob:=Lib.hid (Ob.out.fut RNm.stays f18)
  have Oo:=Lib.hid (Oo.out.fut RNm.stays f18)
  have Oc:=Lib.hid (Oc.out.fut RNm.stays f18)
  have Oq:=Lib.hid (Oq.out.fut RNm.stays f18)
  clear hod f18 HCd
  have HX19:=Lib.hid (sameTx_any _ _ er w18 Od.out.rep Oq.out.rep (by decide))
  go_wp2_with fail
  refine HX19.out.mono ?_
  rintro e w19 ⟨rfl,f19⟩
  have S19:=Lib.hid f19.size
  have F19:=Lib.hid (F18.out.trans f19)
  have Oa:=Lib.hid (Oa.out.fut RNm.stays f19)
  have Ob:=Lib.hid (Ob.out.fut RNm.stays f19)
  have Oo:=Lib.hid (Oo.out.fut RNm.stays f19)
  have Oc:=Lib.hid (Oc.out.fut RNm.stays f19)
  have Oq:=Lib.hid (Oq.out.fut RNm.stays f19)
  have Od:=Lib.hid (Od.out.fut RNm.stays f19)
  clear f19 HX19
  clear Oq
  have HX20:=Lib.hid (sameTx_any _ _ es w19 Oc.out.rep Oa.out.rep (by decide))
  go_wp2_with fail
  refine HX20.out.mono ?_
  rintro e w20 ⟨rfl,f20⟩
  have S20:=Lib.hid f20.size
  have F20:=Lib.hid (F19.out.trans f20)
  have Oa:=Lib.hid (Oa.out.fut RNm.stays f20)
  have Ob:=Lib.hid (Ob.out.fut RNm.stays f20)
  have Oo:=Lib.hid (Oo.out.fut RNm.stays f20)
  have Oc:=Lib.hid (Oc.out.fut RNm.stays f20)
  have Od:=Lib.hid (Od.out.fut RNm.stays f20)
  clear f20 HX20
  go_wp2_with fail
  have hB:=heap_alloc_new w20 (.cells #[Value.int IntKind.i64 0,Value.slice none 0 0,Value.slice none 0 0,Value.slice none 0 0,Value.slice none 0 0,Value.slice none 0 0,Value.slice none 0 0,Value.slice none 0 0,Value.slice none 0 0,Value.slice none 0 0,Value.slice none 0 0,Value.slice none 0 0,Value.slice none 0 0,Value.slice none 0 0,Value.slice none 0 0,Value.slice none 0 0,Value.slice none 0 0,Value.slice none 0 0,Value.slice none 0 0,Value.slice none 0 0,Value.slice none 0 0,Value.slice none 0 0,Value.slice none 0 0,Value.slice none 0 0,Value.slice none 0 0,Value.slice none 0 0,Value.slice none 0 0,Value.slice none 0 0,Value.slice none 0 0,Value.slice none 0 0,Value.slice none 0 0,Value.slice none 0 0] 65)
  have F21:=Fut.alloc w20 (.cells #[Value.int IntKind.i64 0,Value.slice none 0 0,Value.slice none 0 0,Value.slice none 0 0,Value.slice none 0 0,Value.slice none 0 0,Value.slice none 0 0,Value.slice none 0 0,Value.slice none 0 0,Value.slice none 0 0,Value.slice none 0 0,Value.slice none 0 0,Value.slice none 0 0,Value.slice none 0 0,Value.slice none 0 0,Value.slice none 0 0,Value.slice none 0 0,Value.slice none 0 0,Value.slice none 0 0,Value.slice none 0 0,Value.slice none 0 0,Value.slice none 0 0,Value.slice none 0 0,Value.slice none 0 0,Value.slice none 0 0,Value.slice none 0 0,Value.slice none 0 0,Value.slice none 0 0,Value.slice none 0 0,Value.slice none 0 0,Value.slice none 0 0,Value.slice none 0 0] 65)
  obtain ⟨w21,hW⟩:∃ W,w20.alloc (.cells #[Value.int IntKind.i64 0,Value.slice none 0 0,Value.slice none 0 0,Value.slice none 0 0,Value.slice none 0 0,Value.slice none 0 0,Value.slice none 0 0,Value.slice none 0 0,Value.slice none 0 0,Value.slice none 0 0,Value.slice none 0 0,Value.slice none 0 0,Value.slice none 0 0,Value.slice none 0 0,Value.slice none 0 0,Value.slice none 0 0,Value.slice none 0 0,Value.slice none 0 0,Value.slice none 0 0,Value.slice none 0 0,Value.slice none 0 0,Value.slice none 0 0,Value.slice none 0 0,Value.slice none 0 0,Value.slice none 0 0,Value.slice none 0 0,Value.slice none 0 0,Value.slice none 0 0,Value.slice none 0 0,Value.slice none 0 0,Value.slice none 0 0,Value.slice none 0 0] 65) = W:=⟨_,rfl⟩
  rw [hW] at hB F21 ⊢
  clear hW
  have Ka:=Oa.out.fut RNm.stays F21
  have Kb:=Ob.out.fut RNm.stays F21
  have Ko:=Oo.out.fut RNm.stays F21
  have Kc:=Oc.out.fut RNm.stays F21
  have Kd:=Od.out.fut RNm.stays F21
  have BK0:Hid (BkText w2.heap.size w20.heap.size w21 w21 0 (fun _ => .slice none 0 0) [] (fun _ => [])):=Lib.hid ⟨B1Text.new (book_new hB rfl) (Nat.le_trans N15.out (Nat.le_trans F20.out.size F21.size)) _,fun j y hy => (by cases hy),Only.refl _⟩
  have IK:=Lib.hid (And.intro Ka (And.intro Kb (And.intro Ko (And.intro Kc Kd))))
  have FB:=Lib.hid F21
  obtain ⟨bb,hbb⟩:∃ q,w20.heap.size = q:=⟨_,rfl⟩
  have SZ:=Lib.hid (show w3.heap.size ≤ w4.heap.size∧w4.heap.size ≤ w5.heap.size∧w5.heap.size ≤ w6.heap.size∧w6.heap.size ≤ w7.heap.size∧w7.heap.size ≤ w13.heap.size∧w13.heap.size ≤ w14.heap.size∧w14.heap.size ≤ w17.heap.size∧w17.heap.size ≤ w18.heap.size∧w18.heap.size ≤ w20.heap.size from by have q4:=S4.out;have q5:=S5.out;have q6:=S6.out;have q7:=S7.out;have q8:=S8.out;have q9:=S9.out;have q10:=S10.out;have q13:=S13.out;have q14:=S14.out;have q15:=S15.out;have q16:=S16.out;have q17:=S17.out;have q18:=S18.out;have q19:=S19.out;have q20:=S20.out;omega)
  rw [hbb] at BK0 SZ ⊢
  have hbb:=Lib.hid hbb
  clear hB F21 Ka Kb Ko Kc Kd Oa Ob Oo Oc Od S3 S4 S5 S6 S7 S8 S9 S10 S13 S14 S15 S16 S17 S18 S19 S20
  go_wp2_with fail
  refine (BK0.out.put (by omega) (by simp) IK.out.1 (fun k hk => by have q3:=Ba.out k hk;have q1:=SZ.out;omega) (fun k hk h => ownsL_nil h)).mono ?_
  rintro e w22 ⟨⟨u0,rfl⟩,vs0,h1⟩
  have BK1:=Lib.hid h1
  clear h1 BK0
  go_wp2_with fail
  refine (BK1.out.put (by omega) (by simp) IK.out.2.1 (fun k hk => by have q3:=Bb.out k hk;have q1:=SZ.out;omega) (fun k hk h => by
   simp only [ownsL_snoc,ownsL_nil,false_or] at h
   have q2:=Ba.out k h;have q3:=Bb.out k hk;have q1:=SZ.out;omega)).mono ?_
  rintro e w23 ⟨⟨u1,rfl⟩,vs1,h1⟩
  have BK2:=Lib.hid h1
  clear h1 BK1
  go_wp2_with fail
  refine (BK2.out.put (by omega) (by simp) IK.out.2.2.1 (fun k hk => by have q3:=Bo.out k hk;have q1:=SZ.out;omega) (fun k hk h => by
   simp only [ownsL_snoc,ownsL_nil,false_or] at h
   rcases h with h | h
   ·have q2:=Ba.out k h;have q3:=Bo.out k hk;have q1:=SZ.out;omega
   ·have q2:=Bb.out k h;have q3:=Bo.out k hk;have q1:=SZ.out;omega)).mono ?_
  rintro e w24 ⟨⟨u2,rfl⟩,vs2,h1⟩
  have BK3:=Lib.hid h1
  clear h1 BK2
  go_wp2_with fail
  refine (BK3.out.put (by omega) (by simp) IK.out.2.2.2.1 (fun k hk => by have q3:=Bc.out k hk;have q1:=SZ.out;omega) (fun k hk h => by
   simp only [ownsL_snoc,ownsL_nil,false_or] at h
   rcases h with (h | h) | h
   ·have q2:=Ba.out k h;have q3:=Bc.out k hk;have q1:=SZ.out;omega
   ·have q2:=Bb.out k h;have q3:=Bc.out k hk;have q1:=SZ.out;omega
   ·have q2:=Bo.out k h;have q3:=Bc.out k hk;have q1:=SZ.out;omega)).mono ?_
  rintro e w25 ⟨⟨u3,rfl⟩,vs3,h1⟩
  have BK4:=Lib.hid h1
  clear h1 BK3
  go_wp2_with fail
  refine (BK4.out.put (by omega) (by simp) IK.out.2.2.2.2 (fun k hk => by have q3:=Bd.out k hk;have q1:=SZ.out;omega) (fun k hk h => by
   simp only [ownsL_snoc,ownsL_nil,false_or] at h
   rcases h with ((h | h) | h) | h
   ·have q2:=Ba.out k h;have q3:=Bd.out k hk;have q1:=SZ.out;omega
   ·have q2:=Bb.out k h;have q3:=Bd.out k hk;have q1:=SZ.out;omega
   ·have q2:=Bo.out k h;have q3:=Bd.out k hk;have q1:=SZ.out;omega
   ·have q2:=Bc.out k h;have q3:=Bd.out k hk;have q1:=SZ.out;omega)).mono ?_
  rintro e w26 ⟨⟨u4,rfl⟩,vs4,h1⟩
  have BK5:=Lib.hid h1
  clear h1 BK4
  go_wp2_with fail
  have hesl:=Lib.hid (rch_len hS.out (up9_nodup HAw.out.1) fun x hx => (HAw.out.2 x).1 hx)
  have heol:=Lib.hid (rch_len hso.out (up9_nodup HAo.out.1) fun x hx => (HAo.out.2 x).1 hx)
  have herl:=Lib.hid (rch_len hSR.out (up9_nodup HAq.out.1) fun x hx => (HAq.out.2 x).1 hx)
  have hLe:es.length + 70 ≤ 8796093022207:=by have:=hesl.out;omega
  have hLo:eo.length + 70 ≤ 8796093022207:=by have:=heol.out;omega
  have hLr:er.length + 70 ≤ 8796093022207:=by have:=herl.out;omega
  refine (apartText_any BK5.out.b1 (fun i _ => snoc_lenT (snoc_lenT (snoc_lenT (snoc_lenT (snoc_lenT (by simp) hLe) hLe) hLo) hLe) hLr i) (fun W hW => HP.out.fut ((((Only.fut (S:=fun k => w.heap.size ≤ k) ((Ft.out.trans F20.out).trans FB.out)).trans (BK5.out.on.mono fun k hk _ => by have:=SZ.out;have:=N15.out;have:=F20.out.size;have:=hbb.out;have:=Fw.out.size;omega)).trans (hW.mono fun k _ hk => Nat.le_trans Fw.out.size hk)).toFut fun k hk => hk)) (fun i h hi => by have h9:=List.mem_of_getElem? hi;simp only [List.mem_append,List.mem_singleton,List.not_mem_nil,false_or] at h9;rcases h9 with (((rfl | rfl) | rfl) | rfl) | rfl <;> exact ⟨by dsimp only;omega,by dsimp only;omega⟩)).mono ?_
  rintro e w27 ⟨rfl,hO0⟩
  have hOA:Only (fun k => w2.heap.size ≤ k) w21 w27:=(BK5.out.on.mono (fun k hk _ => by have:=SZ.out;have:=N15.out;have:=F20.out.size;have:=hbb.out;omega)).trans (hO0.mono fun k _ hk => by
   rcases hk with h | h
   ·simp only [ownsL_snoc,ownsL_nil,false_or] at h
    rcases h with (((h | h) | h) | h) | h
    ·exact (IK.out.1.block k h).1
    ·exact (IK.out.2.1.block k h).1
    ·exact (IK.out.2.2.1.block k h).1
    ·exact (IK.out.2.2.2.1.block k h).1
    ·exact (IK.out.2.2.2.2.block k h).1
   ·have:=BK5.out.low 12 k h;have:=N15.out;have:=F20.out.size;have:=hbb.out;omega)
  have FE:=Lib.hid (show Fut w w27 from ((Only.fut (S:=fun k => w2.heap.size ≤ k) ((Ft.out.trans F20.out).trans FB.out)).trans hOA).toFut fun k hk => Nat.le_trans Fw.out.size hk)
  clear hO0 BK5 IK hOA
  go_wp2_with fail
  refine (lives9_any _).mono ?_
  rintro e w28 ⟨rfl,f28⟩
  go_wp2
  go_ret
  exact ⟨rfl,FE.out.trans f28⟩
end Go.Proofs.YtobabnpllokkaaaGreatDoor
namespace Go.Proofs.YtobabnpllokkaaaGreatDoor
open Go.ChangeShapes Go.WideShapes
set_option maxRecDepth 100000
theorem and_mkDependReach {a b:Bool} (h1:a = true) (h2:b = true):(a && b) = true:=by rw [h1,h2];rfl
set_option maxHeartbeats 4000000 in
theorem DependReach_facts:joinedFacts Tryz.pinned.checked.prog 5 Tryz.f5 Rows.dependReachSpec Rows.dependReachRow = true:=by
 unfold joinedFacts
 repeat' (with_reducible refine and_mkDependReach ?_ ?_)
 all_goals (as_aux_lemma => kernel_rfl)
end Go.Proofs.YtobabnpllokkaaaGreatDoor
