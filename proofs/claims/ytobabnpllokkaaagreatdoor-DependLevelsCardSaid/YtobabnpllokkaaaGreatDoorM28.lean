/- Parts. -/
import Derived.Test.YtobabnpllokkaaaGreatDoorRows
import Derived.Test.YtobabnpllokkaaaGreatDoorProg
import Derived.Test.YtobabnpllokkaaaGreatDoorChecked
import Derived.JoinedOf
import Derived.SevenTiedAt
import Derived.Lay
import Derived.ChangeMaps5
import Derived.Test.YtobabnpllokkaaaGreatDoorM13
import Derived.Test.YtobabnpllokkaaaGreatDoorM18
import Derived.Test.YtobabnpllokkaaaGreatDoorM26
import Derived.Test.YtobabnpllokkaaaGreatDoorM27
set_option linter.unusedSimpArgs false
set_option linter.unusedVariables false
namespace Go.Proofs.YtobabnpllokkaaaGreatDoor
open Go.RowKit Go.WideMaps Go.Maps
theorem within_fitsL {rs:List Ru} (h:Within rs):rs.length ≤ 1048576∧∀ r ∈ rs,r.fits:=by
 have hlen:∀ l:List Ru,l.length ≤ (l.map Ru.parts).sum:=fun l => by
  induction l with
  | nil => simp
  | cons r l ih =>
   rw [List.map_cons,List.sum_cons,List.length_cons]
   have h9:r.parts = 1 + r.h.length + (r.b.map Lt.parts).sum:=rfl
   omega
 have h1:=hlen rs
 have h2:=h.1
 refine ⟨by omega,fun r hr => ?_⟩
 have h3:=sum_mem Ru.parts hr
 have h4:r.parts = 1 + r.h.length + (r.b.map Lt.parts).sum:=rfl
 have h5:r.b.length ≤ (r.b.map Lt.parts).sum:=by
  induction r.b with
  | nil => simp
  | cons x l ih =>
   rw [List.map_cons,List.sum_cons,List.length_cons]
   have h9:x.parts = 1 + x.a.length + x.l.size + x.d.size:=rfl
   omega
 refine ⟨by omega,by omega,fun l hl => ?_⟩
 have h6:=sum_mem Lt.parts hl
 have h7:l.parts = 1 + l.a.length + l.l.size + l.d.size:=rfl
 exact ⟨by omega,by omega,by omega⟩
theorem within_smL {rs:List Ru} (h:Within rs):Small rs:=by
 unfold Small
 have:=h.1
 omega
theorem snoc_lenL {α:Type} {f:Nat→List α} {n N:Nat} {ys:List α} (h:∀ i,(f i).length + 70 ≤ N) (hy:ys.length + 70 ≤ N):∀ i,(snocF f n ys i).length + 70 ≤ N:=fun i => by
 unfold snocF;split
 ·exact hy
 ·exact h i
set_option maxHeartbeats 8000000 in
set_option maxRecDepth 100000 in
theorem levels_law {M:Nat} (a:Value) (rs:List Ru) (w:World) (h:SlRep 3 M RRu w a rs) (hM:M ≤ 9223372036854775807) (hP:Pows w) :
    Calls Tryz.prog 4 #[a] w fun e w' => e = .returned (.bool true)∧Fut w w':=by
 have HB:=Lib.hid (beyondR_any a rs w h hM)
 obtain ⟨A,c,rfl,hl1,hl2⟩:=h.form
 have hxl:rs.length ≤ 9223372036854775807:=by omega
 have H:=Lib.hid h
 have HP:=Lib.hid hP
 clear hl1 hl2 h hP
 go_enter Tryz.func4,Tryz.ntmps4
 go_wp2_with fail
 refine HB.out.mono ?_
 rintro e w1 ⟨b,rfl,hb,f1⟩
 cases b
 rotate_left
 ·go_wp2
  go_ret
  exact ⟨rfl,f1⟩
 have hW:=hb rfl
 obtain ⟨hn,hfit⟩:=within_fitsL hW
 have hn:=Lib.hid hn
 have hS:=Lib.hid (within_smL hW)
 have hS2:=Lib.hid (small_rev hW.1)
 have HT:=Lib.hid (twinRus_any rs A c w1 (HP.out.fut f1) (H.out.fut RRu.stays f1) (by have:=hn.out;omega) hfit)
 have hfit':=Lib.hid hfit
 have F1:=Lib.hid f1
 clear hb hW HB f1 hfit
 go_wp2_with fail
 refine HT.out.mono ?_
 rintro e w2 ⟨tv,rfl,ht,f2⟩
 obtain ⟨g,hg,hu⟩:=ht.slU H.out (by have:=hn.out;omega) hfit'.out
 have htv:=hu.1
 subst htv
 have HTw:=Lib.hid ht
 have HU:=Lib.hid hu
 have Fw:=Lib.hid (F1.out.trans f2)
 have hgz:=Lib.hid (show w.heap.size ≤ g from Nat.le_trans F1.out.size hg)
 have hgl:=Lib.hid hu.lt
 have H2:=Lib.hid (H.out.fut RRu.stays Fw.out)
 have HP2:=Lib.hid (HP.out.fut Fw.out)
 clear hu ht f2 HT hg F1
 have hso:=Lib.hid (show Small otherP by unfold Small;decide)
 have F2:=Lib.hid (Fut.refl w2)
 have HRt:=Lib.hid (show SlRep 3 100000001 RRu w2 (.slice (some ⟨g,0,none⟩) rs.length (rs.length + 1)) rs from HU.out.rep)
 have hM':=hM
 clear hM'
 have HCw:=Lib.hid (rlevels_any A c rs w2 H2.out hM hS.out)
 go_wp2_with fail
 refine HCw.out.mono ?_
 rintro e w3 ⟨vw,nw,ew,es,rfl,how,hAw,f3⟩
 have HAw:=Lib.hid hAw
 clear hAw
 obtain ⟨Aw,cw,rfl,_,_⟩:=how.rep.form
 have Bw:=Lib.hid how.block
 have Ow:=Lib.hid (how.base (F2.out.size))
 have S3:=Lib.hid f3.size
 have F3:=Lib.hid (F2.out.trans f3)
 clear how f3 HCw
 have HCa:=Lib.hid (lawLevels_any (some ⟨g,0,none⟩) (rs.length + 1) rs (.slice Aw es.length cw) es nw ew w3 (HRt.out.fut RRu.stays F3.out) (by decide) hS.out Ow.out.rep HAw.out)
 go_wp2_with fail
 refine HCa.out.mono ?_
 rintro e w4 ⟨va,rfl,hoa,f4⟩
 obtain ⟨Aa,ca,rfl,_,_⟩:=hoa.rep.form
 have Ba:=Lib.hid hoa.block
 have Oa:=Lib.hid (hoa.base (F3.out.size))
 have S4:=Lib.hid f4.size
 have F4:=Lib.hid (F3.out.trans f4)
 have Ow:=Lib.hid (Ow.out.fut RLv.stays f4)
 clear hoa f4 HCa
 have HCb:=Lib.hid (lawLevels_any (some ⟨g,0,none⟩) (rs.length + 1) rs (.slice Aw es.length cw) es nw ew w4 (HRt.out.fut RRu.stays F4.out) (by decide) hS.out Ow.out.rep HAw.out)
 go_wp2_with fail
 refine HCb.out.mono ?_
 rintro e w5 ⟨vb,rfl,hob,f5⟩
 obtain ⟨Ab,cb,rfl,_,_⟩:=hob.rep.form
 have Bb:=Lib.hid hob.block
 have Ob:=Lib.hid (hob.base (F4.out.size))
 have S5:=Lib.hid f5.size
 have F5:=Lib.hid (F4.out.trans f5)
 have Ow:=Lib.hid (Ow.out.fut RLv.stays f5)
 have Oa:=Lib.hid (Oa.out.fut RLv.stays f5)
 clear hob f5 HCb
 go_wp2_with fail
 refine (other_any _).mono ?_
 rintro e w6 ⟨Az6,rfl,hz6,f6⟩
 have Z6:=Lib.hid hz6
 have S6:=Lib.hid f6.size
 have F6:=Lib.hid (F5.out.trans f6)
 have Ow:=Lib.hid (Ow.out.fut RLv.stays f6)
 have Oa:=Lib.hid (Oa.out.fut RLv.stays f6)
 have Ob:=Lib.hid (Ob.out.fut RLv.stays f6)
 clear hz6 f6
 have HCp:=Lib.hid (rlevels_any Az6 2 otherP w6 Z6.out (by decide) hso.out)
 go_wp2_with fail
 refine HCp.out.mono ?_
 rintro e w7 ⟨vp,np,ep,eo,rfl,hop,hAp,f7⟩
 have HAp:=Lib.hid hAp
 clear hAp
 obtain ⟨Ap,cp,rfl,_,_⟩:=hop.rep.form
 have Bp:=Lib.hid hop.block
 have Op:=Lib.hid (hop.base (F6.out.size))
 have S7:=Lib.hid f7.size
 have F7:=Lib.hid (F6.out.trans f7)
 have Ow:=Lib.hid (Ow.out.fut RLv.stays f7)
 have Oa:=Lib.hid (Oa.out.fut RLv.stays f7)
 have Ob:=Lib.hid (Ob.out.fut RLv.stays f7)
 clear hop f7 HCp
 go_wp2_with fail
 refine (other_any _).mono ?_
 rintro e w8 ⟨Az8,rfl,hz8,f8⟩
 have Z8:=Lib.hid hz8
 have S8:=Lib.hid f8.size
 have F8:=Lib.hid (F7.out.trans f8)
 have Ow:=Lib.hid (Ow.out.fut RLv.stays f8)
 have Oa:=Lib.hid (Oa.out.fut RLv.stays f8)
 have Ob:=Lib.hid (Ob.out.fut RLv.stays f8)
 have Op:=Lib.hid (Op.out.fut RLv.stays f8)
 clear hz8 f8
 have hfp:=field_prog Az8 2 2
 have HCo:=Lib.hid (lawLevels_any Az8 2 otherP (.slice Ap eo.length cp) eo np ep w8 Z8.out (by decide) hso.out Op.out.rep HAp.out)
 go_wp2_with fail
 refine HCo.out.mono ?_
 rintro e w9 ⟨vo,rfl,hoo,f9⟩
 obtain ⟨Ao,co,rfl,_,_⟩:=hoo.rep.form
 have Bo:=Lib.hid hoo.block
 have Oo:=Lib.hid (hoo.base (F8.out.size))
 have S9:=Lib.hid f9.size
 have F9:=Lib.hid (F8.out.trans f9)
 have Ow:=Lib.hid (Ow.out.fut RLv.stays f9)
 have Oa:=Lib.hid (Oa.out.fut RLv.stays f9)
 have Ob:=Lib.hid (Ob.out.fut RLv.stays f9)
 have Op:=Lib.hid (Op.out.fut RLv.stays f9)
 clear hoo f9 HCo
 have HX10:=Lib.hid (sameLv_any _ _ es w9 Ob.out.rep Ow.out.rep (by decide))
 go_wp2_with fail
 refine HX10.out.mono ?_
 rintro e w10 ⟨rfl,f10⟩
 have S10:=Lib.hid f10.size
 have F10:=Lib.hid (F9.out.trans f10)
 have Ow:=Lib.hid (Ow.out.fut RLv.stays f10)
 have Oa:=Lib.hid (Oa.out.fut RLv.stays f10)
 have Ob:=Lib.hid (Ob.out.fut RLv.stays f10)
 have Op:=Lib.hid (Op.out.fut RLv.stays f10)
 have Oo:=Lib.hid (Oo.out.fut RLv.stays f10)
 clear f10 HX10
 have HLe:=Lib.hid (leftRus_any rs _ _ w10 (HP2.out.fut F10.out) (HTw.out.keep F10.out) (H2.out.fut RRu.stays F10.out) (by have:=hn.out;omega) hfit'.out)
 go_wp2_with fail
 refine HLe.out.mono ?_
 rintro e w13 ⟨rfl,f13⟩
 clear Op
 have S13:=Lib.hid f13.size
 have F13:=Lib.hid (F10.out.trans f13)
 have Ow:=Lib.hid (Ow.out.fut RLv.stays f13)
 have Oa:=Lib.hid (Oa.out.fut RLv.stays f13)
 have Ob:=Lib.hid (Ob.out.fut RLv.stays f13)
 have Oo:=Lib.hid (Oo.out.fut RLv.stays f13)
 clear f13 HLe HTw
 have HCc:=Lib.hid (lawLevels_any (some ⟨g,0,none⟩) (rs.length + 1) rs (.slice Aw es.length cw) es nw ew w13 (HRt.out.fut RRu.stays F13.out) (by decide) hS.out Ow.out.rep HAw.out)
 go_wp2_with fail
 refine HCc.out.mono ?_
 rintro e w14 ⟨vc,rfl,hoc,f14⟩
 obtain ⟨Ac,cc,rfl,_,_⟩:=hoc.rep.form
 have Bc:=Lib.hid hoc.block
 have Oc:=Lib.hid (hoc.base (F13.out.size))
 have S14:=Lib.hid f14.size
 have F14:=Lib.hid (F13.out.trans f14)
 have Ow:=Lib.hid (Ow.out.fut RLv.stays f14)
 have Oa:=Lib.hid (Oa.out.fut RLv.stays f14)
 have Ob:=Lib.hid (Ob.out.fut RLv.stays f14)
 have Oo:=Lib.hid (Oo.out.fut RLv.stays f14)
 clear hoc f14 HCc
 clear Ow
 go_wp2_with fail
 refine (turned_ru g _ rs w14 (HU.out.fut F14.out)).mono ?_
 rintro e w15 ⟨⟨u,rfl⟩,hu3,hO3⟩
 have hD:∀ k,w2.heap.size ≤ k→¬ k = g:=fun k hk e => by have:=hgl.out;omega
 have S15:=Lib.hid hO3.size
 have Ft:=Lib.hid (show Fut w w15 from ((Only.fut (S:=fun k => k = g) (Fw.out.trans F14.out)).trans hO3).toFut fun k hk => by have:=hgz.out;omega)
 have N15:=Lib.hid (show w2.heap.size ≤ w15.heap.size from Nat.le_trans F14.out.size hO3.size)
 have Oa:=Lib.hid (Oa.out.only (RLv.same _ _) hO3 fun k hk => hD k (Oa.out.block k hk).1)
 have Ob:=Lib.hid (Ob.out.only (RLv.same _ _) hO3 fun k hk => hD k (Ob.out.block k hk).1)
 have Oo:=Lib.hid (Oo.out.only (RLv.same _ _) hO3 fun k hk => hD k (Oo.out.block k hk).1)
 have Oc:=Lib.hid (Oc.out.only (RLv.same _ _) hO3 fun k hk => hD k (Oc.out.block k hk).1)
 clear hO3 hD HU HRt F14
 obtain ⟨R,hR⟩:∃ R,rs.reverse = R:=⟨_,rfl⟩
 have hRl:=Lib.hid (show R.length = rs.length by rw [← hR,List.length_reverse])
 have hRf:=Lib.hid (show ∀ x ∈ R,x.fits from fun x hx => hfit'.out x ((mem_rev x).2 (hR ▸ hx)))
 rw [hR] at hu3 hS2
 have HRr:=Lib.hid (show SlRep 3 100000001 RRu w15 (.slice (some ⟨g,0,none⟩) R.length (rs.length + 1)) R from by have h9:=hu3.rep;rw [hu3.1] at h9;rw [hRl.out] at h9 ⊢;exact h9)
 have F15:=Lib.hid (Fut.refl w15)
 clear hR hu3
 have HT2:=Lib.hid (by have h9:=twinRus_any R (some ⟨g,0,none⟩) (rs.length + 1) w15 (HP.out.fut Ft.out) HRr.out (by rw [hRl.out];have:=hn.out;omega) hRf.out;rw [hRl.out] at h9;exact h9)
 go_wp2_with fail
 refine HT2.out.mono ?_
 rintro e w16 ⟨tv2,rfl,ht2,f16⟩
 obtain ⟨g2,hg2,hu2⟩:=ht2.slU HRr.out (by rw [hRl.out];have:=hn.out;omega) hRf.out
 have htv2:=hu2.1
 subst htv2
 have HR2:=Lib.hid hu2.rep
 have S16:=Lib.hid f16.size
 have F16:=Lib.hid (F15.out.trans f16)
 have Oa:=Lib.hid (Oa.out.fut RLv.stays f16)
 have Ob:=Lib.hid (Ob.out.fut RLv.stays f16)
 have Oo:=Lib.hid (Oo.out.fut RLv.stays f16)
 have Oc:=Lib.hid (Oc.out.fut RLv.stays f16)
 clear ht2 f16 HT2 hg2 hu2
 have HCq:=Lib.hid (rlevels_any (some ⟨g2,0,none⟩) (R.length + 1) R w16 HR2.out (by decide) hS2.out)
 go_wp2_with fail
 refine HCq.out.mono ?_
 rintro e w17 ⟨vq,nq,eq,er,rfl,hoq,hAq,f17⟩
 have HAq:=Lib.hid hAq
 clear hAq
 obtain ⟨Aq,cq,rfl,_,_⟩:=hoq.rep.form
 have Bq:=Lib.hid hoq.block
 have Oq:=Lib.hid (hoq.base (Nat.le_trans N15.out F16.out.size))
 have S17:=Lib.hid f17.size
 have F17:=Lib.hid (F16.out.trans f17)
 have Oa:=Lib.hid (Oa.out.fut RLv.stays f17)
 have Ob:=Lib.hid (Ob.out.fut RLv.stays f17)
 have Oo:=Lib.hid (Oo.out.fut RLv.stays f17)
 have Oc:=Lib.hid (Oc.out.fut RLv.stays f17)
 clear hoq f17 HCq
 have HCd:=Lib.hid (by have h9:=lawLevels_any (some ⟨g,0,none⟩) (rs.length + 1) R (.slice Aq er.length cq) er nq eq w17 (HRr.out.fut RRu.stays F17.out) (by decide) hS2.out Oq.out.rep HAq.out;rw [hRl.out] at h9;exact h9)
 go_wp2_with fail
 refine HCd.out.mono ?_
 rintro e w18 ⟨vd,rfl,hod,f18⟩
 obtain ⟨Ad,cd,rfl,_,_⟩:=hod.rep.form
 have Bd:=Lib.hid hod.block
 have Od:=Lib.hid (hod.base (Nat.le_trans N15.out F17.out.size))
 have S18:=Lib.hid f18.size
 have F18:=Lib.hid (F17.out.trans f18)
 have Oa:=Lib.hid (Oa.out.fut RLv.stays f18)
 have Ob:=Lib.hid (Ob.out.fut RLv.stays f18)
 have Oo:=Lib.hid (Oo.out.fut RLv.stays f18)
 have Oc:=Lib.hid (Oc.out.fut RLv.stays f18)
 have Oq:=Lib.hid (Oq.out.fut RLv.stays f18)
 clear hod f18 HCd
 clear Oq
 have HX20:=Lib.hid (sameLv_any _ _ es w18 Oc.out.rep Oa.out.rep (by decide))
 go_wp2_with fail
 refine HX20.out.mono ?_
 rintro e w20 ⟨rfl,f20⟩
 have S20:=Lib.hid f20.size
 have F20:=Lib.hid (F18.out.trans f20)
 have Oa:=Lib.hid (Oa.out.fut RLv.stays f20)
 have Ob:=Lib.hid (Ob.out.fut RLv.stays f20)
 have Oo:=Lib.hid (Oo.out.fut RLv.stays f20)
 have Oc:=Lib.hid (Oc.out.fut RLv.stays f20)
 have Od:=Lib.hid (Od.out.fut RLv.stays f20)
 clear f20 HX20
 go_wp2_with fail
 have hB:=heap_alloc_new w20 (.cells #[Value.int IntKind.i64 0,Value.slice none 0 0,Value.slice none 0 0,Value.slice none 0 0,Value.slice none 0 0,Value.slice none 0 0,Value.slice none 0 0,Value.slice none 0 0,Value.slice none 0 0,Value.slice none 0 0,Value.slice none 0 0,Value.slice none 0 0,Value.slice none 0 0,Value.slice none 0 0,Value.slice none 0 0,Value.slice none 0 0,Value.slice none 0 0,Value.slice none 0 0,Value.slice none 0 0,Value.slice none 0 0,Value.slice none 0 0,Value.slice none 0 0,Value.slice none 0 0,Value.slice none 0 0,Value.slice none 0 0,Value.slice none 0 0,Value.slice none 0 0,Value.slice none 0 0,Value.slice none 0 0,Value.slice none 0 0,Value.slice none 0 0,Value.slice none 0 0] 65)
 have F21:=Fut.alloc w20 (.cells #[Value.int IntKind.i64 0,Value.slice none 0 0,Value.slice none 0 0,Value.slice none 0 0,Value.slice none 0 0,Value.slice none 0 0,Value.slice none 0 0,Value.slice none 0 0,Value.slice none 0 0,Value.slice none 0 0,Value.slice none 0 0,Value.slice none 0 0,Value.slice none 0 0,Value.slice none 0 0,Value.slice none 0 0,Value.slice none 0 0,Value.slice none 0 0,Value.slice none 0 0,Value.slice none 0 0,Value.slice none 0 0,Value.slice none 0 0,Value.slice none 0 0,Value.slice none 0 0,Value.slice none 0 0,Value.slice none 0 0,Value.slice none 0 0,Value.slice none 0 0,Value.slice none 0 0,Value.slice none 0 0,Value.slice none 0 0,Value.slice none 0 0,Value.slice none 0 0] 65)
 obtain ⟨w21,hW⟩:∃ W,w20.alloc (.cells #[Value.int IntKind.i64 0,Value.slice none 0 0,Value.slice none 0 0,Value.slice none 0 0,Value.slice none 0 0,Value.slice none 0 0,Value.slice none 0 0,Value.slice none 0 0,Value.slice none 0 0,Value.slice none 0 0,Value.slice none 0 0,Value.slice none 0 0,Value.slice none 0 0,Value.slice none 0 0,Value.slice none 0 0,Value.slice none 0 0,Value.slice none 0 0,Value.slice none 0 0,Value.slice none 0 0,Value.slice none 0 0,Value.slice none 0 0,Value.slice none 0 0,Value.slice none 0 0,Value.slice none 0 0,Value.slice none 0 0,Value.slice none 0 0,Value.slice none 0 0,Value.slice none 0 0,Value.slice none 0 0,Value.slice none 0 0,Value.slice none 0 0,Value.slice none 0 0] 65) = W:=⟨_,rfl⟩
 rw [hW] at hB F21 ⊢
 clear hW
 have Ka:=Oa.out.fut RLv.stays F21
 have Kb:=Ob.out.fut RLv.stays F21
 have Ko:=Oo.out.fut RLv.stays F21
 have Kc:=Oc.out.fut RLv.stays F21
 have Kd:=Od.out.fut RLv.stays F21
 have BK0:Hid (BkLevel w2.heap.size w20.heap.size w21 w21 0 (fun _ => .slice none 0 0) [] (fun _ => [])):=Lib.hid ⟨B1Level.new (book_new hB rfl) (Nat.le_trans N15.out (Nat.le_trans F20.out.size F21.size)) _,fun j y hy => (by cases hy),Only.refl _⟩
 have IK:=Lib.hid (And.intro Ka (And.intro Kb (And.intro Ko (And.intro Kc Kd))))
 have FB:=Lib.hid F21
 obtain ⟨bb,hbb⟩:∃ q,w20.heap.size = q:=⟨_,rfl⟩
 have SZ:=Lib.hid (show w3.heap.size ≤ w4.heap.size∧w4.heap.size ≤ w5.heap.size∧w5.heap.size ≤ w6.heap.size∧w6.heap.size ≤ w7.heap.size∧w7.heap.size ≤ w8.heap.size∧w8.heap.size ≤ w9.heap.size∧w9.heap.size ≤ w13.heap.size∧w13.heap.size ≤ w14.heap.size∧w14.heap.size ≤ w17.heap.size∧w17.heap.size ≤ w18.heap.size∧w18.heap.size ≤ w20.heap.size from by have q4:=S4.out;have q5:=S5.out;have q6:=S6.out;have q7:=S7.out;have q8:=S8.out;have q9:=S9.out;have q10:=S10.out;have q13:=S13.out;have q14:=S14.out;have q15:=S15.out;have q16:=S16.out;have q17:=S17.out;have q18:=S18.out;have q20:=S20.out;omega)
 rw [hbb] at BK0 SZ ⊢
 have hbb:=Lib.hid hbb
 clear hB F21 Ka Kb Ko Kc Kd Oa Ob Oo Oc Od S3 S4 S5 S6 S7 S8 S9 S10 S13 S14 S15 S16 S17 S18 S20
 go_wp2_with fail
 refine (BK0.out.put (by omega) (by simp) IK.out.1 (fun k hk => by have q3:=Ba.out k hk;have q1:=SZ.out;omega) (fun k hk h => ownsL_nil h)).mono ?_
 rintro e w22 ⟨⟨u0,rfl⟩,vs0,h1⟩
 have BK1:=Lib.hid h1
 clear h1 BK0
 go_wp2_with fail
 refine (BK1.out.put (by omega) (by simp) IK.out.2.1 (fun k hk => by have q3:=Bb.out k hk;have q1:=SZ.out;omega) (fun k hk h => by
  simp only [ownsL_snoc,ownsL_nil,false_or] at h
  have q2:=Ba.out k h;have q3:=Bb.out k hk;have q1:=SZ.out;omega)).mono ?_
 rintro e w23 ⟨⟨u1,rfl⟩,vs1,h1⟩
 have BK2:=Lib.hid h1
 clear h1 BK1
 go_wp2_with fail
 refine (BK2.out.put (by omega) (by simp) IK.out.2.2.1 (fun k hk => by have q3:=Bo.out k hk;have q1:=SZ.out;omega) (fun k hk h => by
  simp only [ownsL_snoc,ownsL_nil,false_or] at h
  rcases h with h | h
  ·have q2:=Ba.out k h;have q3:=Bo.out k hk;have q1:=SZ.out;omega
  ·have q2:=Bb.out k h;have q3:=Bo.out k hk;have q1:=SZ.out;omega)).mono ?_
 rintro e w24 ⟨⟨u2,rfl⟩,vs2,h1⟩
 have BK3:=Lib.hid h1
 clear h1 BK2
 go_wp2_with fail
 refine (BK3.out.put (by omega) (by simp) IK.out.2.2.2.1 (fun k hk => by have q3:=Bc.out k hk;have q1:=SZ.out;omega) (fun k hk h => by
  simp only [ownsL_snoc,ownsL_nil,false_or] at h
  rcases h with (h | h) | h
  ·have q2:=Ba.out k h;have q3:=Bc.out k hk;have q1:=SZ.out;omega
  ·have q2:=Bb.out k h;have q3:=Bc.out k hk;have q1:=SZ.out;omega
  ·have q2:=Bo.out k h;have q3:=Bc.out k hk;have q1:=SZ.out;omega)).mono ?_
 rintro e w25 ⟨⟨u3,rfl⟩,vs3,h1⟩
 have BK4:=Lib.hid h1
 clear h1 BK3
 go_wp2_with fail
 refine (BK4.out.put (by omega) (by simp) IK.out.2.2.2.2 (fun k hk => by have q3:=Bd.out k hk;have q1:=SZ.out;omega) (fun k hk h => by
  simp only [ownsL_snoc,ownsL_nil,false_or] at h
  rcases h with ((h | h) | h) | h
  ·have q2:=Ba.out k h;have q3:=Bd.out k hk;have q1:=SZ.out;omega
  ·have q2:=Bb.out k h;have q3:=Bd.out k hk;have q1:=SZ.out;omega
  ·have q2:=Bo.out k h;have q3:=Bd.out k hk;have q1:=SZ.out;omega
  ·have q2:=Bc.out k h;have q3:=Bd.out k hk;have q1:=SZ.out;omega)).mono ?_
 rintro e w26 ⟨⟨u4,rfl⟩,vs4,h1⟩
 have BK5:=Lib.hid h1
 clear h1 BK4
 go_wp2_with fail
 have hesl:=Lib.hid (lvAns_len hS.out HAw.out)
 have heol:=Lib.hid (lvAns_len hso.out HAp.out)
 have herl:=Lib.hid (lvAns_len hS2.out HAq.out)
 have hLe:es.length + 70 ≤ 5864062014805:=by have:=hesl.out;omega
 have hLo:eo.length + 70 ≤ 5864062014805:=by have:=heol.out;omega
 have hLr:er.length + 70 ≤ 5864062014805:=by have:=herl.out;omega
 refine (apartLevel_any BK5.out.b1 (fun i _ => snoc_lenL (snoc_lenL (snoc_lenL (snoc_lenL (snoc_lenL (by simp) hLe) hLe) hLo) hLe) hLr i) (fun W hW => HP.out.fut ((((Only.fut (S:=fun k => w.heap.size ≤ k) ((Ft.out.trans F20.out).trans FB.out)).trans (BK5.out.on.mono fun k hk _ => by have:=SZ.out;have:=N15.out;have:=F20.out.size;have:=hbb.out;have:=Fw.out.size;omega)).trans (hW.mono fun k _ hk => Nat.le_trans Fw.out.size hk)).toFut fun k hk => hk)) (fun i h hi => by have h9:=List.mem_of_getElem? hi;simp only [List.mem_append,List.mem_singleton,List.not_mem_nil,false_or] at h9;rcases h9 with (((rfl | rfl) | rfl) | rfl) | rfl <;> exact ⟨by dsimp only;omega,by dsimp only;omega⟩)).mono ?_
 rintro e w27 ⟨rfl,hO0⟩
 have hOA:Only (fun k => w2.heap.size ≤ k) w21 w27:=(BK5.out.on.mono (fun k hk _ => by have:=SZ.out;have:=N15.out;have:=F20.out.size;have:=hbb.out;omega)).trans (hO0.mono fun k _ hk => by
  rcases hk with h | h
  ·simp only [ownsL_snoc,ownsL_nil,false_or] at h
   rcases h with (((h | h) | h) | h) | h
   ·exact (IK.out.1.block k h).1
   ·exact (IK.out.2.1.block k h).1
   ·exact (IK.out.2.2.1.block k h).1
   ·exact (IK.out.2.2.2.1.block k h).1
   ·exact (IK.out.2.2.2.2.block k h).1
  ·have:=BK5.out.low 21 k h;have:=N15.out;have:=F20.out.size;have:=hbb.out;omega)
 have FE:=Lib.hid (show Fut w w27 from ((Only.fut (S:=fun k => w2.heap.size ≤ k) ((Ft.out.trans F20.out).trans FB.out)).trans hOA).toFut fun k hk => Nat.le_trans Fw.out.size hk)
 clear hO0 BK5 IK hOA
 go_wp2_with fail
 refine (lives9_any _).mono ?_
 rintro e w28 ⟨rfl,f28⟩
 go_wp2
 go_ret
 exact ⟨rfl,FE.out.trans f28⟩
end Go.Proofs.YtobabnpllokkaaaGreatDoor
namespace Go.Proofs.YtobabnpllokkaaaGreatDoor
open Go.ChangeShapes Go.WideShapes
set_option maxRecDepth 100000
theorem and_mkDependLevels {a b:Bool} (h1:a = true) (h2:b = true):(a && b) = true:=by rw [h1,h2];rfl
set_option maxHeartbeats 4000000 in
theorem DependLevels_facts:joinedFacts Tryz.pinned.checked.prog 4 Tryz.f4 Rows.dependLevelsSpec Rows.dependLevelsRow = true:=by
 unfold joinedFacts
 repeat' (with_reducible refine and_mkDependLevels ?_ ?_)
 all_goals (as_aux_lemma => kernel_rfl)
end Go.Proofs.YtobabnpllokkaaaGreatDoor
