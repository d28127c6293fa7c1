/- Parts. -/
import Derived.WalkMore
import Derived.Test.YtobabnpllokkaaaGreatDoorM16
import Derived.Test.YtobabnpllokkaaaGreatDoorM12
import Derived.Test.YtobabnpllokkaaaGreatDoorM00
set_option linter.unusedSimpArgs false
set_option linter.unusedVariables false
namespace Go.Proofs.YtobabnpllokkaaaGreatDoor
open Go.RowKit
def plainP (rs:List Ru):Bool:=!rs.any Ru.makes && oneP rs
set_option maxHeartbeats 1600000 in
set_option maxRecDepth 100000 in
theorem idxR_any {M:Nat} (A:Option Addr) (c:Nat) (rs:List Ru) (w:World) (h:SlRep 3 M RRu w (.slice A rs.length c) rs) (hM:M ≤ 9223372036854775807) (hS:Small rs) :
    Calls Tryz.prog 246 #[.slice A rs.length c,.func (.func 197) #[] #[]] w fun e w' => ∃ r:Int,e = .returned (.int .i64 r)∧decide (0 ≤ r) = rs.any Ru.makes∧Fut w w':=by
 have H:=Lib.hid h
 have HS:=Lib.hid hS
 obtain ⟨_,_,hv,hl1,hl2⟩:=h.form
 have hxl:rs.length ≤ 9223372036854775807:=by omega
 clear h hv hl1 hl2 hS
 go_enter Tryz.func246,Tryz.ntmps246
 go_wp2_with fail
 go_loopw [8] (fun i wr => ∃ k:Nat,k ≤ rs.length∧i = .int .i64 k∧Hid (∀ x ∈ rs.take k,x.makes = false)∧Hid (Fut w wr)) (fun i _ => rs.length - (intOf i).toNat)
 case atStart => exact ⟨0,Nat.zero_le _,rfl,Lib.hid (fun x hx => by simp at hx),Lib.hid (Fut.refl _)⟩
 case round =>
  obtain ⟨k,hk,rfl,hI,hF⟩:=hrel
  by_cases hlt:k < rs.length
  ·have hltI:(k:Int) < rs.length:=by omega
   have e0:(0:Int) ≤ k∧(k:Int) < rs.length:=by omega
   obtain ⟨b,off,Ah,ch,Ab,cb,rfl,u0,u1,u2,hp,hh1,hh2⟩:=ru_at H.out hlt
   have y0:=hF.out.cell u0
   have y1:=hF.out.cell u1
   have y2:=hF.out.cell u2
   have hnx:Hid (rs.take (k + 1) = rs.take k ++ [rs[k]]):=Lib.hid (List.take_succ_eq_append_getElem hlt)
   have hmem:rs[k] ∈ rs:=List.getElem_mem hlt
   have hbd:=(HS.out.mem hmem).1
   generalize rs[k] = r at *
   have HD:=Lib.hid (makes_any r Ah Ab ch cb wr hp (hh1.fut RAr.stays hF.out) (hh2.fut RLt.stays hF.out) (by omega))
   obtain ⟨d,hd⟩:∃ d,r.makes = d:=⟨_,rfl⟩
   have hd':=Lib.hid hd
   rw [hd] at HD
   clear hd u0 u1 u2 hh1 hh2
   cases d
   ·go_wp2_with fail
    refine HD.out.mono ?_
    rintro e w3 ⟨rfl,f3⟩
    have F3:=Lib.hid (hF.out.trans f3)
    have hI2:Hid (∀ x ∈ rs.take (k + 1),x.makes = false):=Lib.hid fun x hx => by
     rw [hnx.out,List.mem_append] at hx
     rcases hx with hx | hx
     ·exact hI.out x hx
     ·rw [List.mem_singleton] at hx;subst hx;exact hd'.out
    clear f3
    go_wp2
    go_roundw
    case rel => exact ⟨k + 1,by omega,by go_num,hI2,F3⟩
    case measure => simp [intOf] <;> omega
   ·go_wp2_with fail
    refine HD.out.mono ?_
    rintro e w3 ⟨rfl,f3⟩
    go_wp2
    go_ret
    exact ⟨k,rfl,by
     have h9:rs.any Ru.makes = true:=List.any_eq_true.2 ⟨_,hmem,hd'.out⟩
     rw [h9];simp,hF.out.trans f3⟩
  ·obtain rfl:k = rs.length:=by omega
   rw [List.take_length] at hI
   go_wp2
   go_ret
   exact ⟨-1,rfl,by
    have h9:rs.any Ru.makes = false:=List.any_eq_false.2 fun x hx => by rw [hI.out x hx];decide
    rw [h9];decide,hF.out⟩
set_option maxHeartbeats 1600000 in
theorem contR_any {M:Nat} (A:Option Addr) (c:Nat) (rs:List Ru) (w:World) (h:SlRep 3 M RRu w (.slice A rs.length c) rs) (hM:M ≤ 9223372036854775807) (hS:Small rs) :
    Calls Tryz.prog 196 #[.slice A rs.length c,.func (.func 197) #[] #[]] w fun e w' => e = .returned (.bool (rs.any Ru.makes))∧Fut w w':=by
 have HI:=Lib.hid (idxR_any A c rs w h hM hS)
 obtain ⟨b,hb⟩:∃ b,(rs.any Ru.makes) = b:=⟨_,rfl⟩
 rw [hb] at HI ⊢
 clear h hb
 go_enter Tryz.func196,Tryz.ntmps196
 go_wp2_with fail
 refine HI.out.mono ?_
 rintro e w1 ⟨r,rfl,hr,f1⟩
 by_cases h0:0 ≤ r
 ·obtain rfl:b = true:=by rw [← hr];simp [h0]
  have h0':r ≥ 0:=h0
  go_wp2
  go_ret
  exact ⟨by first | rfl | simp,f1⟩
 ·obtain rfl:b = false:=by rw [← hr];simp [h0]
  have h0':¬ r ≥ 0:=h0
  go_wp2
  go_ret
  exact ⟨by first | rfl | simp,f1⟩
set_option maxHeartbeats 1600000 in
theorem plain_any {M:Nat} (A:Option Addr) (c:Nat) (rs:List Ru) (w:World) (h:SlRep 3 M RRu w (.slice A rs.length c) rs) (hM:M ≤ 9223372036854775807) (hS:Small rs) :
    Calls Tryz.prog 75 #[.slice A rs.length c] w fun e w' => e = .returned (.bool (plainP rs))∧Fut w w':=by
 have HC:=Lib.hid (contR_any A c rs w h hM hS)
 have HO:=Lib.hid (fun W (hW:Fut w W) => one_any A c rs W (h.fut RRu.stays hW) hM hS)
 unfold plainP
 obtain ⟨a,ha⟩:∃ b,(rs.any Ru.makes) = b:=⟨_,rfl⟩
 obtain ⟨b,hb⟩:∃ b,oneP rs = b:=⟨_,rfl⟩
 rw [ha] at HC ⊢
 rw [hb] at HO ⊢
 clear h ha hb
 cases a
 ·go_enter Tryz.func75,Tryz.ntmps75
  go_wp2_with fail
  refine HC.out.mono ?_
  rintro e w1 ⟨rfl,f1⟩
  go_wp2_with fail
  refine (HO.out _ f1).mono ?_
  rintro e w2 ⟨rfl,f2⟩
  go_wp2
  go_ret
  exact ⟨by first | rfl | simp,f1.trans f2⟩
 ·go_enter Tryz.func75,Tryz.ntmps75
  go_wp2_with fail
  refine HC.out.mono ?_
  rintro e w1 ⟨rfl,f1⟩
  go_wp2
  go_ret
  exact ⟨by first | rfl | simp,f1⟩
end Go.Proofs.YtobabnpllokkaaaGreatDoor
namespace Go.Proofs.YtobabnpllokkaaaGreatDoor
open Go.RowKit Go.WideMaps Go.Maps
def liveT:TS:=⟨[(xB,1),(yB,2),(zB,3)],[],[(xB,0),(yB,1),(zB,2)],[[xB],[yB],[zB]]⟩
theorem live_small:Small otherP:=by unfold Small;decide +kernel
theorem live_smallY:Small [ruY]:=by unfold Small;decide +kernel
theorem live_len:(drawP otherP).length ≤ 100000000:=by decide +kernel
theorem live_tarj:tarjT (drawP otherP) 10 = some liveT:=by kernel_rfl
theorem live_blame:blameE liveT.inn (edgesP otherP) = none:=by kernel_rfl
theorem live_raise:raiseR (edgesP otherP) 5 [] = some [(zB,1)]:=by kernel_rfl
theorem live_levels:((drawP otherP).sorted.map fun s => (s,lk0 [(zB,1)] s)) = [(xB,0),(yB,0),(zB,1)]:=by kernel_rfl
theorem live_parts:partsP (drawP otherP) liveT = some [[xB],[yB],[zB]]:=by kernel_rfl
theorem live_sound:SoundT liveT:=⟨by decide +kernel,by decide +kernel,by decide⟩
theorem live_pz:∀ p ∈ liveT.out,∀ x ∈ p,x.size ≤ 140737488351232:=by decide +kernel
theorem live_plain:plainP [ruY] = true:=by kernel_rfl
theorem live_one:oneP otherP = false:=by kernel_rfl
theorem look0 {w:World} {b:Nat} {l:Nums} {s:ByteArray} (h:MapE strV w b (encN l)) (hs:∀ x ∈ l,x.1.size ≤ 140737488351232) (hp:s.size ≤ 140737488351232):(Instr.lookup tVm (.map (some b)) (.string s) false).run Tryz.prog w = .ok (.int .i64 (lk0 l s:Nat)) w:=(look_num h hs hp).2
theorem ed_to' (rs:List Ru) (hp:∀ r ∈ rs,∀ x ∈ r.b,x.p.size ≤ 140737488351232):∀ e ∈ edgesP rs,e.t.size ≤ 140737488351232:=fun e he => by
 unfold edgesP at he
 obtain ⟨⟨r,i⟩,hr,he⟩:=List.mem_flatMap.1 he
 unfold Ru.edges at he
 obtain ⟨x,hx,rfl⟩:=List.mem_map.1 he
 have hr2:r ∈ rs:=by
  have:=List.mem_zipIdx hr
  obtain ⟨_,_,h3⟩:=this
  rw [h3]
  exact List.getElem_mem _
 exact hp r hr2 x (List.mem_filter.1 hx).1
theorem rus_ok' {M:Nat} {w:World} {v:Value} {rs:List Ru} (h:SlRep 3 M RRu w v rs):(∀ r ∈ rs,r.p.size ≤ 140737488351232)∧∀ r ∈ rs,∀ x ∈ r.b,x.p.size ≤ 140737488351232:=by
 refine ⟨fun r hr => ?_,fun r hr x hx => ?_⟩
 ·obtain ⟨cs,hv,bv,_,h1,_⟩:=sl_mem h r hr
  exact h1
 ·obtain ⟨cs,hv,bv,_,_,_,h2⟩:=sl_mem h r hr
  obtain ⟨cs',hr'⟩:=sl_mem h2 x hx
  obtain ⟨_,_,_,_,_,_,_,_,_,_,_,hc⟩:=lt_cs hr'
  exact hc.pw
theorem infoEdZ':(Tryz.prog.info? 129).map (fun i => (i.zero,i.size)) = some (some (.agg #[.string ⟨#[]⟩,.string ⟨#[]⟩,.int .i8 0,.int .i64 0]),4):=by kernel_rfl
theorem ed_at' {M:Nat} {w:World} {A:Option Addr} {n cap:Nat} {xs:List Ed} (h:SlRep 4 M REd w (.slice A n cap) xs) {k:Nat} (hk:k < xs.length) :
    ∃ b off,A = some ⟨b,off,none⟩∧∀ j v,([.string (xs[k]).f,.string (xs[k]).t,.int .i8 (xs[k]).k,.int .i64 (xs[k]).r]:List Value)[j]? = some v→w.cell? ⟨b,off + k * 4 + j,none⟩ = some v:=by
 obtain ⟨A1,cap1,hv,_,_,h3⟩:=h
 obtain ⟨b,off,cs,hA,hl,hc,hr⟩:=h3 k _ (List.getElem?_eq_getElem hk)
 injection hv with hv _ _
 obtain rfl:cs = _:=hr
 exact ⟨b,off,hv.trans hA,fun j v hj => by rw [Nat.add_assoc];exact hc j v hj⟩
theorem gri_base {B B' mb:Nat} {W:World} {G:Gr} (h:GrI B W mb G) (hB:B' ≤ B):GrI B' W mb G:=by
 obtain ⟨vs,h1,h2,h3,h4,h5,h6⟩:=h
 exact ⟨vs,h1,h2,fun i v x a b => (h3 i v x a b).base hB,h4,h5,Nat.le_trans hB h6⟩
theorem edgeP_ok {M:Nat} {w:World} {v:Value} {rs:List Ru} (h:SlRep 3 M RRu w v rs):∀ e ∈ edgesP rs,e.f.size ≤ 140737488351232∧e.t.size ≤ 140737488351232:=fun e he => by
 refine ⟨?_,ed_to' rs (rus_ok' h).2 e he⟩
 unfold edgesP at he
 obtain ⟨⟨r,i⟩,hr,he⟩:=List.mem_flatMap.1 he
 unfold Ru.edges at he
 obtain ⟨x,hx,rfl⟩:=List.mem_map.1 he
 have hr2:r ∈ rs:=by
  obtain ⟨_,_,h3⟩:=List.mem_zipIdx hr
  rw [h3]
  exact List.getElem_mem _
 exact (rus_ok' h).1 r hr2
set_option maxHeartbeats 4000000 in
set_option maxRecDepth 100000 in
theorem levelsB_any {M:Nat} (A:Option Addr) (c:Nat) (rs:List Ru) (w:World) (h:SlRep 3 M RRu w (.slice A rs.length c) rs) (hM:M ≤ 9223372036854775807) (hS:Small rs) (N:Nat) (T:TS) (hT:tarjT (drawP rs) N = some T) (hGl:(drawP rs).length ≤ 100000000) (x:Ed) (hx:blameE T.inn (edgesP rs) = some x) :
    Calls Tryz.prog 74 #[.agg #[.slice A rs.length c]] w fun e w' => e = .returned (.tuple #[.slice none 0 0,.int .i64 x.r,.int .i64 x.errno])∧Fut w w':=by
 obtain ⟨_,_,hv,hl1,hl2⟩:=h.form
 have hxl:rs.length ≤ 9223372036854775807:=by omega
 have HE:=Lib.hid (fun W (hW:Fut w W) => edges_any A c rs W (h.fut RRu.stays hW) hM hS)
 have HD:=Lib.hid (fun W (hW:Fut w W) => draw_any A c rs W (h.fut RRu.stays hW) hM hS)
 have HO:=Lib.hid (edgeP_ok h)
 have HN:=hS.edges
 have hbx:=heap_alloc_new w (.cells #[.slice A rs.length c] 28)
 have F0:=Lib.hid (Fut.alloc w (.cells #[.slice A rs.length c] 28))
 have c0:=cell_at hbx 0 (.slice A rs.length c) rfl
 have hT':=Lib.hid hT
 have hGl':=Lib.hid hGl
 have hx':=Lib.hid hx
 clear h hS hl1 hl2 hv hbx hT hGl hx
 go_enter Tryz.func74,Tryz.ntmps74
 go_wp2_with fail
 go_step3
 go_wp2_with fail
 refine wp_graph 4 [.d,.r (fun v W => OwnL 4 w.heap.size tEdge REd W v (edgesP rs)),.d,.r (fun v W => ∃ mb,v = .map (some mb)∧GrI w.heap.size W mb (drawP rs))] (by kernel_rfl) (by kernel_rfl) (by kernel_rfl) ?_
 simp only [takS,Exs]
 iterate 2 apply Exists.intro
 apply Run.valG (wanted_none rfl _)
 ·intro w1 h1 hk
  have q0:=h1.cell c0;have hg:=F0.out.trans ((Fut.drew _).trans h1);have hgs:=hg.size
  have hcw:=fun b o => Below.cell (p:=⟨b,o,none⟩) h1
  go_simp;rfl
 simp only [actS]
 apply Run.callR (wanted_none rfl _) (by intro v w w' hf hs;exact hs.fut REd.stays hf) (fun _ _ => by go_simp;exact ⟨rfl,rfl⟩)
 ·intro w1 h1 hk
  have q0:=h1.cell c0;have hg:=F0.out.trans ((Fut.drew _).trans h1);have hgs:=hg.size
  refine (HE.out _ hg).mono ?_;rintro e w' ⟨v,rfl,ho,hf⟩;exact ⟨_,rfl,hf,ho.base hgs⟩
 intro v1
 simp only [actS]
 apply Run.valG (wanted_none rfl _)
 ·intro w1 h1 hk
  have q0:=h1.cell c0;have hg:=F0.out.trans ((Fut.drew _).trans h1);have hgs:=hg.size
  have hcw:=fun b o => Below.cell (p:=⟨b,o,none⟩) h1
  go_simp;rfl
 simp only [actS]
 apply Run.callR (wanted_none rfl _) (by intro v w w' hf hs;exact (by obtain ⟨mb,g1,g2⟩:=hs;exact ⟨mb,g1,g2.fut hf⟩)) (fun _ _ => by go_simp;exact ⟨rfl,rfl⟩)
 ·intro w1 h1 hk
  have f1:=Facts.get hk 0 rfl (by kernel_rfl)
  have q0:=h1.cell c0;have hg:=F0.out.trans ((Fut.drew _).trans h1);have hgs:=hg.size
  refine (HD.out _ hg).mono ?_;rintro e w' ⟨mb,rfl,ho,hf⟩;exact ⟨_,rfl,hf,mb,rfl,gri_base ho hgs⟩
 intro v3
 simp only [actS]
 apply Run.done
 intro w2 h2 hk
 obtain ⟨f1,f3,_⟩:=hk
 obtain ⟨Ae,ce,rfl,hel1,hel2⟩:=f1.rep.form
 obtain ⟨mb,rfl,hG⟩:=f3
 have FE:=Lib.hid (F0.out.trans ((Fut.drew _).trans h2))
 have HOw:=Lib.hid f1
 have HP:=Lib.hid (parts_any N T w2 hG hGl'.out hT'.out)
 clear h2 f1 hG c0
 go_wp2_with fail
 refine HP.out.mono ?_
 rintro e w3 ⟨imb,ov,rfl,hm,hms,ho,f3⟩
 have HM:=Lib.hid hm
 have HMS:=Lib.hid hms
 have F3:=Lib.hid (FE.out.trans f3)
 have HO3:=Lib.hid (HOw.out.fut REd.stays f3)
 clear hm hms ho f3 HP HOw
 unfold blameE at hx'
 obtain ⟨es,hes⟩:∃ es,edgesP rs = es:=⟨_,rfl⟩
 rw [hes] at hx' HO3 HN HO
 rw [hes]
 clear hes HE HD
 go_wp2_with fail
 go_loopw [30] (fun i wr => ∃ k:Nat,k ≤ es.length∧i = .int .i64 k∧Hid (Fut w3 wr)∧Hid (∀ e ∈ es.take k,(e.strict && decide (lk0 T.inn e.f = lk0 T.inn e.t)) = false)) (fun i _ => es.length - (intOf i).toNat)
 case atStart => exact ⟨0,Nat.zero_le _,rfl,Lib.hid (Fut.refl _),Lib.hid (fun r hr => by simp at hr)⟩
 case round =>
  obtain ⟨k,hk,rfl,hF,hA⟩:=hrel
  by_cases hlt:k < es.length
  ·have hltI:(k:Int) < es.length:=by omega
   have e0:(0:Int) ≤ k∧(k:Int) < es.length:=by omega
   obtain ⟨b',off,rfl,hcs⟩:=ed_at' (HO3.out.fut REd.stays hF.out).rep hlt
   have htk:=Lib.hid (List.take_succ_eq_append_getElem hlt)
   have hmem:=Lib.hid (List.getElem_mem hlt)
   have hsz:=HO.out _ hmem.out
   obtain ⟨y,hyk⟩:∃ y,es[k] = y:=⟨_,rfl⟩
   rw [hyk] at hcs htk hmem hsz
   replace hyk:=Lib.hid hyk
   obtain ⟨w4,hw4⟩:∃ W,wr.alloc (.cells [.string y.f,.string y.t,.int .i8 y.k,.int .i64 y.r].toArray 129) = W:=⟨_,rfl⟩
   have f1:Fut wr w4:=by rw [← hw4];exact Fut.alloc _ _
   have hrb:w4.heap[wr.heap.size]? = some (.cells #[.string y.f,.string y.t,.int .i8 y.k,.int .i64 y.r] 129 (0,0)):=by rw [← hw4];exact heap_alloc_new wr _
   have q0:=cell_at hrb 0 (.string y.f) rfl
   have q1:=cell_at hrb 1 (.string y.t) rfl
   have q2:=cell_at hrb 2 (.int .i8 y.k) rfl
   have q3:=cell_at hrb 3 (.int .i64 y.r) rfl
   have hm4:=HM.out.fut (hF.out.trans f1)
   have l1:=look0 hm4 HMS.out hsz.1
   have l2:=look0 hm4 HMS.out hsz.2
   have hone:∀ v ∈ ([.string y.f,.string y.t,.int .i8 y.k,.int .i64 y.r]:List Value),v.oneCell' = true:=fun v hv => by
    simp only [List.mem_cons,List.not_mem_nil,or_false] at hv
    rcases hv with rfl | rfl | rfl | rfl <;> rfl
   have hw4h:=Lib.hid hw4
   have hcs9:=Lib.hid hcs
   have FN:=Lib.hid (hF.out.trans f1)
   clear hw4 f1 hrb hcs hsz hm4
   have next:(y.strict && decide (lk0 T.inn y.f = lk0 T.inn y.t)) = false→Hid (∀ e ∈ es.take (k + 1),(e.strict && decide (lk0 T.inn e.f = lk0 T.inn e.t)) = false):=fun hy => Lib.hid fun z hz => by
    rw [htk.out,List.mem_append] at hz
    rcases hz with hz | hz
    ·exact hA.out z hz
    ·rw [List.mem_singleton] at hz;subst hz;exact hy
   by_cases e1:y.k = 1
   ·have HA4:=next (by unfold Ed.strict;rw [e1];rfl)
    clear next
    go_wp2_with (first | (refine wpList_rangeBox [.string y.f,.string y.t,.int .i8 y.k,.int .i64 y.r] rfl rfl rfl rfl rfl rfl rfl hcs9.out Tryz.underlying129 infoEdZ' rfl hone rfl rfl hw4h.out ?_))
    go_roundw
    case rel => exact ⟨k + 1,by omega,by go_num,FN,HA4⟩
    case measure => simp [intOf] <;> omega
   ·by_cases e2:lk0 T.inn y.f = lk0 T.inn y.t
    ·have hyx:x = y:=by
       have hsp:=List.take_append_drop k es
       have h8:es.drop k = y :: es.drop (k + 1):=by
        rw [List.drop_eq_getElem_cons hlt,hyk.out]
       have h9:=hx'.out
       rw [← hsp,List.find?_append,h8,List.find?_eq_none.2 (fun z hz => by rw [hA.out z hz];decide),List.find?_cons_of_pos (by unfold Ed.strict;rw [decide_eq_false e1,decide_eq_true e2];rfl)] at h9
       exact (Option.some.inj h9).symm
     replace hyx:=Lib.hid hyx
     have hex:=hyx.out.symm
     clear next
     generalize lk0 T.inn y.f = n1 at *
     generalize lk0 T.inn y.t = n2 at *
     subst e2
     by_cases e8:y.k = 2
     ·have hen:y.errno = 90:=by unfold Ed.errno;rw [if_pos e8]
      replace hen:=Lib.hid hen
      replace hex:=Lib.hid hex
      go_wp2_with (first | (refine wpList_rangeBox [.string y.f,.string y.t,.int .i8 y.k,.int .i64 y.r] rfl rfl rfl rfl rfl rfl rfl hcs9.out Tryz.underlying129 infoEdZ' rfl hone rfl rfl hw4h.out ?_))
      refine wp_graph 5 [.d,.d,.d,.d,.d] (by kernel_rfl) (by kernel_rfl) (by kernel_rfl) ?_
      simp only [takS,Exs]
      iterate 5 apply Exists.intro
      apply Run.valG (wanted_none rfl _)
      ·intro w1 h1 hk
       go_simp;rfl
      simp only [actS]
      apply Run.valG (wanted_none rfl _)
      ·intro w1 h1 hk
       have r3:=h1.cell q3
       have hcw:=fun b o => Below.cell (p:=⟨b,o,none⟩) h1
       go_simp;rfl
      simp only [actS]
      iterate 3
       apply Run.valG (wanted_none rfl _)
       ·intro w1 h1 hk
        go_simp;rfl
       simp only [actS]
      apply Run.done
      intro w2 h2 hk
      clear hk
      have F9:=(F3.out.trans FN.out).trans ((Fut.drew _).trans h2)
      clear h2
      go_wp2
      (try rw [Exit.noGoto_ret])
      (try simp only [Exit.inBlock,Exit.then])
      (try rw [Exit.noGoto_ret])
      refine bodyPost_ret (v:=.tuple #[.slice none 0 0,.int .i64 y.r,.int .i64 90]) (by simp [results,Tryz.results74,go_sem]) rfl ?_
      exact ⟨by rw [← hex.out,hen.out],F9⟩
     ·by_cases e9:y.k = 3
      ·have hen:y.errno = 91:=by unfold Ed.errno;rw [if_neg e8,if_pos e9]
       replace hen:=Lib.hid hen
       replace hex:=Lib.hid hex
       go_wp2_with (first | (refine wpList_rangeBox [.string y.f,.string y.t,.int .i8 y.k,.int .i64 y.r] rfl rfl rfl rfl rfl rfl rfl hcs9.out Tryz.underlying129 infoEdZ' rfl hone rfl rfl hw4h.out ?_))
       refine wp_graph 5 [.d,.d,.d,.d,.d] (by kernel_rfl) (by kernel_rfl) (by kernel_rfl) ?_
       simp only [takS,Exs]
       iterate 5 apply Exists.intro
       apply Run.valG (wanted_none rfl _)
       ·intro w1 h1 hk
        go_simp;rfl
       simp only [actS]
       apply Run.valG (wanted_none rfl _)
       ·intro w1 h1 hk
        have r3:=h1.cell q3
        have hcw:=fun b o => Below.cell (p:=⟨b,o,none⟩) h1
        go_simp;rfl
       simp only [actS]
       iterate 3
        apply Run.valG (wanted_none rfl _)
        ·intro w1 h1 hk
         go_simp;rfl
        simp only [actS]
       apply Run.done
       intro w2 h2 hk
       clear hk
       have F9:=(F3.out.trans FN.out).trans ((Fut.drew _).trans h2)
       clear h2
       go_wp2
       (try rw [Exit.noGoto_ret])
       (try simp only [Exit.inBlock,Exit.then])
       (try rw [Exit.noGoto_ret])
       refine bodyPost_ret (v:=.tuple #[.slice none 0 0,.int .i64 y.r,.int .i64 91]) (by simp [results,Tryz.results74,go_sem]) rfl ?_
       exact ⟨by rw [← hex.out,hen.out],F9⟩
      ·have hen:y.errno = 92:=by unfold Ed.errno;rw [if_neg e8,if_neg e9]
       replace hen:=Lib.hid hen
       replace hex:=Lib.hid hex
       go_wp2_with (first | (refine wpList_rangeBox [.string y.f,.string y.t,.int .i8 y.k,.int .i64 y.r] rfl rfl rfl rfl rfl rfl rfl hcs9.out Tryz.underlying129 infoEdZ' rfl hone rfl rfl hw4h.out ?_))
       refine wp_graph 5 [.d,.d,.d,.d,.d] (by kernel_rfl) (by kernel_rfl) (by kernel_rfl) ?_
       simp only [takS,Exs]
       iterate 5 apply Exists.intro
       apply Run.valG (wanted_none rfl _)
       ·intro w1 h1 hk
        go_simp;rfl
       simp only [actS]
       apply Run.valG (wanted_none rfl _)
       ·intro w1 h1 hk
        have r3:=h1.cell q3
        have hcw:=fun b o => Below.cell (p:=⟨b,o,none⟩) h1
        go_simp;rfl
       simp only [actS]
       iterate 3
        apply Run.valG (wanted_none rfl _)
        ·intro w1 h1 hk
         go_simp;rfl
        simp only [actS]
       apply Run.done
       intro w2 h2 hk
       clear hk
       have F9:=(F3.out.trans FN.out).trans ((Fut.drew _).trans h2)
       clear h2
       go_wp2
       (try rw [Exit.noGoto_ret])
       (try simp only [Exit.inBlock,Exit.then])
       (try rw [Exit.noGoto_ret])
       refine bodyPost_ret (v:=.tuple #[.slice none 0 0,.int .i64 y.r,.int .i64 92]) (by simp [results,Tryz.results74,go_sem]) rfl ?_
       exact ⟨by rw [← hex.out,hen.out],F9⟩
    ·have HA4:=next (by rw [decide_eq_false e2,Bool.and_false])
     generalize lk0 T.inn y.f = n1 at *
     generalize lk0 T.inn y.t = n2 at *
     have e3:¬ (n1:Int) = (n2:Int):=by omega
     have e4:((n1:Int) == (n2:Int)) = false:=by rw [beq_eq_false_iff_ne];exact e3
     have e5:((n1:Int) != (n2:Int)) = true:=by simp [bne,e4]
     have e6:(n1 == n2) = false:=by rw [beq_eq_false_iff_ne];exact e2
     have e7:(n1 != n2) = true:=by simp [bne,e6]
     clear next
     go_wp2_with (first | (refine wpList_rangeBox [.string y.f,.string y.t,.int .i8 y.k,.int .i64 y.r] rfl rfl rfl rfl rfl rfl rfl hcs9.out Tryz.underlying129 infoEdZ' rfl hone rfl rfl hw4h.out ?_))
     go_roundw
     case rel => exact ⟨k + 1,by omega,by go_num,FN,HA4⟩
     case measure => simp [intOf] <;> omega
  ·exfalso
   obtain rfl:k = es.length:=by omega
   have h1:=List.find?_some hx'.out
   have h2:=hA.out x (by rw [List.take_length];exact List.mem_of_find?_eq_some hx'.out)
   rw [h1] at h2
   cases h2
set_option maxHeartbeats 4000000 in
set_option maxRecDepth 100000 in
theorem partsR_any {M:Nat} (A:Option Addr) (c:Nat) (rs:List Ru) (w:World) (h:SlRep 3 M RRu w (.slice A rs.length c) rs) (hM:M ≤ 9223372036854775807) (hS:Small rs) (N:Nat) (T:TS) (hT:tarjT (drawP rs) N = some T) (hGl:(drawP rs).length ≤ 100000000) (hSd:SoundT T) (hpz0:∀ p ∈ T.out,∀ x ∈ p,x.size ≤ 140737488351232) (L:List (List ByteArray)) (hL:partsP (drawP rs) T = some L) :
    Calls Tryz.prog 9 #[.agg #[.slice A rs.length c]] w fun e w' => ∃ v,e = .returned v∧OwnL 1 w.heap.size 76 (RLs w.heap.size (.slice none 0 0)) w' v L∧Fut w w':=by
 have HD:=Lib.hid (fun W (hW:Fut w W) => draw_any A c rs W (h.fut RRu.stays hW) hM hS)
 obtain ⟨G,hG9⟩:∃ G,drawP rs = G:=⟨_,rfl⟩
 simp only [hG9] at HD hT hGl hL
 have hbx:=heap_alloc_new w (.cells #[.slice A rs.length c] 28)
 have F0:=Lib.hid (Fut.alloc w (.cells #[.slice A rs.length c] 28))
 have c0:=cell_at hbx 0 (.slice A rs.length c) rfl
 have hT':=Lib.hid hT
 have hGl':=Lib.hid hGl
 have hSd':=Lib.hid hSd
 have hL':=Lib.hid hL
 obtain ⟨n,hn⟩:∃ n,T.out.length = n:=⟨_,rfl⟩
 have hn1:=hSd.len
 rw [hn] at hn1
 have hm1:=Lib.hid (fun W => run_makeI n hn1 W)
 have hm2:=Lib.hid (fun W => run_makeIl n hn1 W)
 have hn':=Lib.hid hn
 have HPZ:=Lib.hid hpz0
 clear h hS hbx hT hGl hSd hL hG9 hn
 go_enter Tryz.func9,Tryz.ntmps9
 go_wp2_with fail
 refine (HD.out _ F0.out).mono ?_
 rintro e w1 ⟨mb,rfl,hG,f1⟩
 have HP:=Lib.hid (parts_any N T w1 hG hGl'.out hT'.out)
 have HG:=Lib.hid (gri_base hG F0.out.size)
 have F1:=Lib.hid (F0.out.trans f1)
 clear hG f1 HD c0
 go_wp2_with fail
 refine HP.out.mono ?_
 rintro e w2 ⟨imb,ov,rfl,hm,hms,ho,f2⟩
 obtain ⟨Ap,cp,rfl,hp1,hp2⟩:=ho.rep.form
 have HM:=Lib.hid hm
 have HMS:=Lib.hid hms
 have HO:=Lib.hid ((ho.base F1.out.size).imp fun cs x hx => hx.low F1.out.size)
 have F2:=Lib.hid (F1.out.trans f2)
 have HG2:=Lib.hid (HG.out.fut f2)
 rw [hn'.out]
 clear hm hms ho f2 HP HG hp1 hp2
 have q1:=hm1.out
 have q2:=hm2.out
 obtain ⟨W3,hW3⟩:∃ W,W = (w2.alloc (.cells (madeCells #[.int .i64 0] n) 3)).alloc (.cells (madeCells #[.slice none 0 0] n) 100):=⟨_,rfl⟩
 obtain ⟨hAb,f3,hz3⟩:=AbI.new w2 W3 n G T hW3
 have HAb:=Lib.hid hAb
 have F3:=Lib.hid f3
 have hz2:(w2.alloc (.cells (madeCells #[.int .i64 0] n) 3)).heap.size = w2.heap.size + 1:=by simp
 have hW3':=Lib.hid hW3
 have hn63:n ≤ 9223372036854775807:=by omega
 clear hAb f3 hW3
 go_wp2_with fail
 rw [← hW3'.out]
 go_loopw [37] (fun i wr => ∃ k:Nat,k ≤ n∧i = .int .i64 k∧Hid (AbI wr w2.heap.size (w2.heap.size + 1) (w2.heap.size + 2) n (waitP G T k) (aboveP G T k))∧Hid (Fut w2 wr)) (fun i _ => n - (intOf i).toNat)
 case atStart => exact ⟨0,Nat.zero_le _,rfl,HAb,F3⟩
 case round =>
  obtain ⟨k,hk,rfl,hI,hF⟩:=hrel
  obtain ⟨wA,rfl⟩:∃ x,x = wr:=⟨_,rfl⟩
  by_cases hlt:k < n
  ·have hltI:(k:Int) < n:=by omega
   have e0:(0:Int) ≤ k∧(k:Int) < n:=by omega
   have hltT:k < T.out.length:=by rw [hn'.out];exact hlt
   obtain ⟨b',off,pv,rfl,z0',hpv⟩:=ls_at HO.out.rep hltT
   have z0:=hF.out.cell z0'
   have hgd:T.out.getD k [] = T.out[k]:=by rw [List.getD_eq_getElem?_getD,List.getElem?_eq_getElem hltT];rfl
   have hlow:lowerP G T k = (T.out[k]).foldl (lowR G T.inn k) []:=by unfold lowerP;rw [hgd]
   have hpz:∀ x ∈ T.out[k],x.size ≤ 140737488351232:=HPZ.out _ (List.getElem_mem hltT)
   generalize T.out[k] = part at *
   obtain ⟨Aq,cq,rfl,hq1,hq2⟩:=hpv.rep.form
   have hq3:part.length ≤ 9223372036854775807:=by unfold maxLen at hq2;omega
   have HPV:=Lib.hid hpv
   have Hlow:=Lib.hid hlow
   have HPz:=Lib.hid hpz
   have hmm:=@run_makeMap Tryz.prog
   have f4:=Fut.alloc wA (.map #[] 0)
   have HM0:=Lib.hid (MapE.new (kv:=numK) wA)
   have hI4:=Lib.hid (hI.out.fut f4)
   have hF4:=Lib.hid (hF.out.trans f4)
   have hlbB:w2.heap.size + 2 ≤ wA.heap.size:=hI.out.low.2.2.2
   obtain ⟨W4,hW4⟩:∃ W,wA.alloc (.map #[] 0) = W:=⟨_,rfl⟩
   rw [hW4] at HM0 hI4 hF4
   have hW4':=Lib.hid hW4
   clear hpv hgd hlow hpz hq1 hq2 hI hF f4 hW4 z0'
   go_wp2_with fail
   rw [hW4'.out]
   go_loopw [45] (fun i wq => ∃ m:Nat,m ≤ part.length∧i = .int .i64 m∧Hid (MapE numK wq wA.heap.size (nsE ((part.take m).foldl (lowR G T.inn k) [])))∧Hid (AbI wq w2.heap.size (w2.heap.size + 1) (w2.heap.size + 2) n (waitP G T k) (aboveP G T k))∧Hid (Fut w2 wq)) (fun i _ => part.length - (intOf i).toNat)
   case atStart => exact ⟨0,Nat.zero_le _,rfl,HM0,hI4,hF4⟩
   case round =>
    obtain ⟨m,hm,rfl,hMm,hIq,hFq⟩:=hrel
    obtain ⟨wq,rfl⟩:∃ x,x = wr:=⟨_,rfl⟩
    by_cases hlt2:m < part.length
    ·have hltI2:(m:Int) < part.length:=by omega
     have e2:(0:Int) ≤ m∧(m:Int) < part.length:=by omega
     obtain ⟨b2,off2,rfl,z2⟩:=nm_at (HPV.out.fut RNm.stays hFq.out).rep hlt2
     have hnx:=Lib.hid (show (part.take (m + 1)).foldl (lowR G T.inn k) [] = (sucs G part[m]).foldl (lowS T.inn k) ((part.take m).foldl (lowR G T.inn k) []) by rw [List.take_succ_eq_append_getElem hlt2,List.foldl_append];rfl)
     have hsz:=HPz.out _ (List.getElem_mem hlt2)
     generalize part[m] = s at *
     obtain ⟨sv,hsv,hssz,hlook⟩:=(HG2.out.fut hFq.out).lookO (S:=fun _ => False) hsz (fun h => h)
     have l2:=hlook _ (Only.refl _)
     generalize sucs G s = ss at *
     obtain ⟨As,cs,rfl,hs1,hs2⟩:=hsv.rep.form
     have hs3:ss.length ≤ 9223372036854775807:=by unfold maxLen at hs2;omega
     have hSV:=Lib.hid hsv
     have hSz:=Lib.hid hssz
     have hacc:=Lib.hid (lowAcc (G:=G) (T:=T) hSd'.out (hn'.out ▸ (show 0 < n by omega)) k (part.take m))
     generalize (part.take m).foldl (lowR G T.inn k) [] = acc at *
     clear hlook hsv hssz hs1 hs2 hsz
     have hMz0:=Lib.hid hMm.out
     go_wp2_with fail
     go_loopw [53] (fun i wz => ∃ j:Nat,j ≤ ss.length∧i = .int .i64 j∧Hid (MapE numK wz wA.heap.size (nsE ((ss.take j).foldl (lowS T.inn k) acc)))∧Hid (AbI wz w2.heap.size (w2.heap.size + 1) (w2.heap.size + 2) n (waitP G T k) (aboveP G T k))∧Hid (Fut w2 wz) ∧Hid (Only (fun j => j = wA.heap.size) wq wz)) (fun i _ => ss.length - (intOf i).toNat)
     case atStart => exact ⟨0,Nat.zero_le _,rfl,hMm,hIq,hFq,Lib.hid (Only.refl _)⟩
     case round =>
      obtain ⟨j,hj,rfl,hMz,hIz,hFz,hOz⟩:=hrel
      obtain ⟨wz,rfl⟩:∃ x,x = wr:=⟨_,rfl⟩
      by_cases hlt3:j < ss.length
      ·have hltI3:(j:Int) < ss.length:=by omega
       have e3:(0:Int) ≤ j∧(j:Int) < ss.length:=by omega
       obtain ⟨b3,off3,rfl,z3'⟩:=nm_at hSV.out.rep hlt3
       have z3:=hOz.out.cell z3' (fun e => by
        obtain ⟨arr,hty⟩:=hSV.out.typed b3 rfl
        exact map_ne hMz0.out hty e.symm)
       have hnx3:=Lib.hid (show (ss.take (j + 1)).foldl (lowS T.inn k) acc = lowS T.inn k ((ss.take j).foldl (lowS T.inn k) acc) ss[j] by rw [List.take_succ_eq_append_getElem hlt3,List.foldl_append];rfl)
       have hsz3:=hSz.out _ (List.getElem_mem hlt3)
       have hac3:=lowAccS hSd'.out (hn'.out ▸ (show 0 < n by omega)) k (ss.take j) hacc.out
       generalize ss[j] = t at *
       generalize (ss.take j).foldl (lowS T.inn k) acc = ac at *
       have l3:=look0 (HM.out.fut hFz.out) HMS.out hsz3
       have hlk:=hSd'.out.lk (hn'.out ▸ (show 0 < n by omega)) t
       have hup:=Lib.hid (ns_add hMz.out (fun x hx => by have:=hac3 x hx;have:=hSd'.out.len;omega) (p:=lk0 T.inn t) (by have:=hSd'.out.len;omega))
       unfold lowS at hnx3
       generalize lk0 T.inn t = q at *
       clear z3' hac3 hsz3
       by_cases hq:q = k
       ·subst hq
        rw [if_pos rfl] at hnx3
        have HX:=Lib.hid (by rw [← hnx3.out] at hMz;exact hMz.out)
        go_wp2
        go_roundw
        case rel => exact ⟨j + 1,by omega,by go_num,HX,hIz,hFz,hOz⟩
        case measure => simp [intOf] <;> omega
       ·rw [if_neg hq] at hnx3
        have n3:¬ (q:Int) = (k:Int):=by omega
        have n4:((q:Int) == (k:Int)) = false:=by rw [beq_eq_false_iff_ne];exact n3
        have n5:((q:Int) != (k:Int)) = true:=by simp [bne,n4]
        have n6:(q == k) = false:=by rw [beq_eq_false_iff_ne];exact hq
        have n7:(q != k) = true:=by simp [bne,n6]
        obtain ⟨w5,hr5,hM5,hg5⟩:=hup.out
        have O5:Only (fun j => j = wA.heap.size) wz w5:=Only.grown hg5 fun k hk => (Option.some.inj hk).symm
        have HX:=Lib.hid (by rw [← hnx3.out] at hM5;exact hM5)
        have HI5:=Lib.hid (hIz.out.only O5 fun k arr t hk e => map_ne hMz.out hk e.symm)
        have HF5:=Lib.hid (((Only.fut hFz.out).trans (O5.mono (S':=fun j => w2.heap.size ≤ j) fun k _ e => by omega)).toFut fun k h => h)
        have HO5:=Lib.hid (hOz.out.trans O5)
        clear hM5 hg5 O5 hup
        go_wp2
        go_roundw
        case rel => exact ⟨j + 1,by omega,by go_num,HX,HI5,HF5,HO5⟩
        case measure => simp [intOf] <;> omega
      ·obtain rfl:j = ss.length:=by omega
       rw [List.take_length] at hMz
       have HX:=Lib.hid (by rw [← hnx.out] at hMz;exact hMz.out)
       go_wp2
       go_roundw
       case rel => exact ⟨m + 1,by omega,by go_num,HX,hIz,hFz⟩
       case measure => simp [intOf] <;> omega
    ·obtain rfl:m = part.length:=by omega
     rw [List.take_length,← Hlow.out] at hMm
     have hlq:=lowerP_all (G:=G) (T:=T) (P:=fun x => x < n) (fun t => hn'.out ▸ hSd'.out.lk (hn'.out ▸ (show 0 < n by omega)) t) k
     have hln:=ns_len hMm.out 3
     have d0:=hIq.out.wait.cell hlt
     have d1:=hIq.out.wait.free k
     have hS9:=hIq.out.setWait k ((lowerP G T k).length:Nat)
     have hO9:Only (fun j => j = w2.heap.size) wq (wq.setCell ⟨w2.heap.size,k,none⟩ (.int .i64 ((lowerP G T k).length:Nat))):=Only.set _ _ rfl
     obtain ⟨wS,hwS⟩:∃ x,wq.setCell ⟨w2.heap.size,k,none⟩ (.int .i64 ((lowerP G T k).length:Nat)) = x:=⟨_,rfl⟩
     rw [hwS] at hS9 hO9
     have hMS:=hMm.out.kept (hO9.block wA.heap.size hMm.out.lt (by omega))
     have hFS:Fut w2 wS:=((Only.fut hFq.out).trans (hO9.mono (S':=fun j => w2.heap.size ≤ j) fun k _ e => by omega)).toFut fun k h => h
     replace hS9:=Lib.hid hS9
     replace hMS:=Lib.hid hMS
     replace hFS:=Lib.hid hFS
     have hwS':=Lib.hid hwS
     clear hO9 hwS hIq hFq hMm
     go_wp2_with (first | (at_range;refine wpList_rangeE _ rfl _ tNs rfl 3 103 Tryz.underlying102 wA.heap.size rfl (hwS'.out ▸ hMS.out) ?_;intro wi hrg0 fi zi))
     go_frame
     rw [hwS'.out] at hrg0 fi zi ⊢
     rw [nsE_keys] at hrg0
     have HR0:=Lib.hid hrg0
     have HA0:=Lib.hid ((hS9.out.fut fi).congr (av':=fun j => aboveP G T k j ++ if j ∈ lowerP G T k∧j ∉ lowerP G T k then [k] else []) (fun j _ => rfl) (fun j _ => by rw [if_neg (fun h => h.2 h.1),List.append_nil]))
     have HF0:=Lib.hid (hFS.out.trans fi)
     have hlq':=Lib.hid hlq
     have hin0:=infoIn1
     clear hrg0 fi zi hln d0 d1 hlq
     go_loopw [] (fun wr => ∃ left:List Nat,Hid (RngE numK wr wA.heap.size wS.heap.size (nsE (lowerP G T k)) left)∧Hid (AbI wr w2.heap.size (w2.heap.size + 1) (w2.heap.size + 2) n (fun j => if j = k then ((lowerP G T k).length:Nat) else waitP G T k j) (fun j => aboveP G T k j ++ if j ∈ lowerP G T k∧j ∉ left then [k] else []))∧Hid (Fut w2 wr)∧Hid (∀ x ∈ left,x ∈ lowerP G T k)) (fun wr => wr.rangeLeft wA.heap.size wS.heap.size)
     case atStart => exact ⟨_,HR0,HA0,HF0,Lib.hid fun x hx => hx⟩
     case round =>
      obtain ⟨left,hR,hA,hFr,hsub⟩:=hrel
      obtain ⟨wz,rfl⟩:∃ x,x = wr:=⟨_,rfl⟩
      have hRo:=hR.out
      go_wp2_with (first | (at_next;refine wpList_nextE _ rfl _ rfl wA.heap.size wS.heap.size rfl hRo numK_inj ?done ?more))
      case done =>
       intro h0
       subst h0
       have hA9:=Lib.hid (hA.out.congr (wt':=waitP G T (k + 1)) (av':=aboveP G T (k + 1)) (fun j hj => by
        unfold waitP
        by_cases e:j = k
        ·subst e;rw [if_pos rfl,if_pos (by omega)]
        ·rw [if_neg e]
         by_cases e9:j < k
         ·rw [if_pos e9,if_pos (by omega)]
         ·rw [if_neg e9,if_neg (by omega)]) (fun j _ => by
        rw [aboveP_succ]
        by_cases e:j ∈ lowerP G T k <;> simp [e]))
       clear hA hR hRo hsub
       go_wp2
       go_roundw
       case rel => exact ⟨k + 1,by omega,by go_num,hA9,hFr⟩
       case measure => simp [intOf] <;> omega
      case more =>
       intro x v wn hx hxl hRn hgn hzn hen
       have hxn:=hlq'.out x (hsub.out x hx)
       have On:Only (fun j => j = wS.heap.size) wz wn:=Only.grown hgn fun k hk => (Option.some.inj hk).symm
       have hA1:=hA.out.only On fun k' arr t hk e => iter_ne hRo hk e
       have hFn:Fut w2 wn:=((Only.fut hFr.out).trans (On.mono (S':=fun j => w2.heap.size ≤ j) fun k _ e => by
        have:=HF0.out.size;have:=hFS.out.size;omega)).toFut fun k h => h
       have hav:aboveP G T k x ++ (if x ∈ lowerP G T k∧x ∉ left then [k] else []) = aboveP G T k x:=by rw [if_neg (fun h => h.2 hx),List.append_nil]
       obtain ⟨v9,h9,hown,_⟩:=hA1.pushAbove hxn
       have fa:=Fut.alloc wn (.cells #[.int .i64 (k:Nat)] 3)
       obtain ⟨v8,h8,_,hpush⟩:=(hA1.fut fa).pushAbove hxn
       obtain rfl:v9 = v8:=by
        have:=fa.cell h9
        rw [h8] at this
        exact (Option.some.inj this).symm
       simp only [hav] at hown hpush
       have hal:(aboveP G T k x).length ≤ 100000000:=by
        unfold aboveP
        have:=List.length_filter_le (fun k => decide (x ∈ lowerP G T k)) (List.range k)
        rw [List.length_range] at this
        omega
       have hcnt:=Lib.hid (show ((left.filter (fun y => !decide (y = x))).length < left.length) from List.length_filter_lt_length_iff_exists.2 ⟨x,hx,by simp⟩)
       have hRl:=Lib.hid hRo.cnt
       have hnxA:∀ j,(if j = x then aboveP G T k x ++ [k] else aboveP G T k j ++ (if j ∈ lowerP G T k∧j ∉ left then [k] else [])) = aboveP G T k j ++ (if j ∈ lowerP G T k∧j ∉ left.filter (fun y => !decide (y = x)) then [k] else []):=fun j => by
        by_cases e:j = x
        ·subst e
         rw [if_pos rfl,if_pos ⟨hsub.out j hx,by simp⟩]
        ·rw [if_neg e]
         have:j ∈ left.filter (fun y => !decide (y = x))↔j ∈ left:=by simp [List.mem_filter,e]
         simp only [this]
       have hsub':=Lib.hid (show ∀ y ∈ left.filter (fun y => !decide (y = x)),y ∈ lowerP G T k from fun y hy => hsub.out y (List.mem_filter.1 hy).1)
       obtain ⟨Ao,co,rfl,_,_⟩:=hown.rep.form
       have hownh:=Lib.hid hown
       have hpushh:=Lib.hid hpush
       have hRnh:=Lib.hid (hRn.fut fa)
       have hFnh:=Lib.hid (hFn.trans fa)
       have hxI:(x:Int) < n:=by omega
       have ex:(0:Int) ≤ x∧(x:Int) < n:=by omega
       have hbs:w2.heap.size + 2 ≤ wn.heap.size:=hA1.low.2.2.2
       have hlab:w2.heap.size + 1 < w2.heap.size + 2:=Nat.lt_succ_self _
       have hnxh:=Lib.hid hnxA
       generalize aboveP G T k x = ax at *
       unfold numK at hen
       clear hzn hA hR hRo hsub hRn hown hpush hnxA hgn On hA1 hFn hav hx h8 hxl
       go_wp2_with (first | (at_builtin;go_loud (refine wpList_append_LB (R:=RIn) (B:=w2.heap.size + 2) (M:=1) (xs:=ax) (ys:=[k]) (e:=3) (by go_simp) _ _ 100 rfl Tryz.underlying100 (.int .i64 0) 8 infoIn1 rfl (by decide) RIn.one RIn.keeps rfl rfl (hownh.out.fut RIn.stays fa) (inOne _ k _) ?l3 ?l4 ?b3 ?k3)))
       case l3 => simp [maxLen];omega
       case l4 => simp;omega
       case b3 => simp;omega
       case k3 =>
       intro v' w' o' g' sn'
       obtain ⟨c0,c1,hA3,hO3,hR3⟩:=hpushh.out w' v' k o' g' sn'
       obtain ⟨A8,c8,rfl,_,_⟩:=o'.rep.form
       obtain ⟨w5,hw5⟩:∃ W,w'.setCell ⟨w2.heap.size + 1,x,none⟩ (.slice A8 (ax ++ [k]).length c8) = W:=⟨_,rfl⟩
       rw [hw5] at hA3 hO3 hR3
       have HA5:=Lib.hid (hA3.congr (fun j _ => rfl) (fun j _ => hnxh.out j))
       have HR5:=Lib.hid (hR3 _ _ _ _ hRnh.out)
       have HF5:=Lib.hid (show Fut w2 w5 from ((Only.fut hFnh.out).trans (hO3.mono (S':=fun j => w2.heap.size ≤ j) fun k _ e => by omega)).toFut fun k h => h)
       have hi3:=infoIl
       rw [List.length_append,List.length_singleton] at hw5
       have hw5':=Lib.hid hw5
       clear hA3 hO3 hR3 o' g' sn' hw5 hpushh hownh
       go_wp2_with (first | (refine wpList_store_1 (wanted_none rfl _) _ _ rfl rfl rfl hi3 rfl c0 c1 hw5'.out ?_))
       rw [hw5'.out]
       clear c0 c1
       go_wp2
       go_roundw
       case rel => exact ⟨_,HR5,HA5,HF5,hsub'⟩
       case measure => rw [HR5.out.cnt,hRl.out];exact hcnt.out
  ·obtain rfl:n = k:=by omega
   obtain ⟨l0,hl0,rfl⟩:∃ l0,ordP G T n (waitP G T n) = some l0∧L = l0.map fun a => T.out.getD a []:=by
    have h9:=hL'.out
    unfold partsP at h9
    rw [hn'.out] at h9
    cases q:ordP G T n (waitP G T n) with
    | none => rw [q] at h9;cases h9
    | some l => rw [q] at h9;exact ⟨l,rfl,(Option.some.inj h9).symm⟩
   have HO0:=Lib.hid (show ordP G T (n - 0) (waitP G T n) = some l0 from hl0)
   clear hl0 hL' q1 q2 HAb F3 hW3' hm1 hm2 HG2 HM HMS hlt hk
   go_wp2_with fail
   go_loopw [16,93] (fun u i wr => ∃ (q:Nat) (wt:Nat→Int) (dn rest:List Nat),q ≤ n∧i = .int .i64 q∧Hid (ordP G T (n - q) wt = some rest)∧Hid (dn ++ rest = l0)∧Hid (dn.length = q)∧Hid (AbI wr w2.heap.size (w2.heap.size + 1) (w2.heap.size + 2) n wt (aboveP G T n))∧Hid (OwnL 1 (w2.heap.size + 2) 76 (RLs w.heap.size (.slice none 0 0)) wr u (dn.map fun a => T.out.getD a []))∧Hid (Fut w2 wr)) (fun _ i _ => n - (intOf i).toNat)
   case atStart => exact ⟨0,_,[],l0,Nat.zero_le _,rfl,HO0,Lib.hid rfl,Lib.hid rfl,hI,Lib.hid OwnL.nil,hF⟩
   case round =>
    obtain ⟨q,wt,dn,rest,hq,rfl,hor,hdr,hdl,hA,hOu,hFr⟩:=hrel
    obtain ⟨wA,rfl⟩:∃ x,x = wr:=⟨_,rfl⟩
    by_cases hlq:q < n
    ·have hlqI:(q:Int) < n:=by omega
     have e1:(0:Int) ≤ q∧(q:Int) < n:=by omega
     obtain ⟨m,hm9⟩:∃ m,n - q = m + 1:=⟨n - q - 1,by omega⟩
     have hor':=hor.out
     rw [hm9] at hor'
     unfold ordP at hor'
     rw [hn'.out] at hor'
     obtain ⟨a,hpa,rest',hre,rfl⟩:∃ a,pickP T wt n = some a∧∃ rest',ordP G T m (layP G T wt a) = some rest'∧rest = a :: rest':=by
      cases hp:pickP T wt n with
      | none => rw [hp] at hor';cases hor'
      | some a =>
       rw [hp] at hor'
       dsimp only at hor'
       cases hr:ordP G T m (layP G T wt a) with
       | none => rw [hr] at hor';cases hor'
       | some r => rw [hr] at hor';exact ⟨a,rfl,r,hr,(Option.some.inj hor').symm⟩
     have han:=pickP_lt hpa
     have hpa':=Lib.hid hpa
     have hre':=Lib.hid hre
     have hm9':=Lib.hid hm9
     clear hor hor' hpa hre hm9
     go_wp2_with fail
     go_loopw [17,97] (fun x i wz => ∃ j:Nat,j ≤ n∧i = .int .i64 j∧x = pkV (pickP T wt j)∧Hid (Fut wA wz)) (fun _ i _ => n - (intOf i).toNat)
     case atStart => exact ⟨0,Nat.zero_le _,rfl,rfl,Lib.hid (Fut.refl _)⟩
     case round =>
      obtain ⟨j,hj,rfl,hx,hFz⟩:=hrel
      obtain ⟨wz,rfl⟩:∃ x,x = wr:=⟨_,rfl⟩
      by_cases hlj:j < n
      ·have hljI:(j:Int) < n:=by omega
       have e2:(0:Int) ≤ j∧(j:Int) < n:=by omega
       have y0:=hFz.out.cell (hA.out.wait.cell hlj)
       have hx9:pickP T wt (j + 1) = if wt j = 0∧betterP T j (pickP T wt j) = true then some j else pickP T wt j:=rfl
       obtain ⟨wj,hwj⟩:∃ x,wt j = x:=⟨_,rfl⟩
       rw [hwj] at y0 hx9
       replace hwj:=Lib.hid hwj
       by_cases hw0:wj = 0
       ·subst hw0
        cases hpj:pickP T wt j with
        | none =>
         rw [hpj] at hx hx9
         have hx9':=Lib.hid (hx9.trans (if_pos ⟨rfl,rfl⟩))
         unfold pkV at hx
         dsimp only at hx
         subst hx
         clear hx9
         go_wp2
         refine wp_graph 21 [.d,.d,.d,.d,.d,.d,.d,.d,.d,.d,.d,.d,.d,.d,.d,.d,.d,.d,.d,.d,.d] (by kernel_rfl) (by kernel_rfl) (by kernel_rfl) ?_
         simp only [takS,Exs]
         iterate 21 apply Exists.intro
         iterate 3
          apply Run.valG (wanted_none rfl _)
          ·intro w1 h1 hk
           go_simp;rfl
          simp only [actS]
         iterate 3
          apply Run.valG (by go_simp)
          ·intro w1 h1 hk
           go_simp;rfl
          simp only [actS]
         iterate 13
          apply Run.skip (by first | (go_simp;done) | (go_simp;exact fun h => nomatch h))
          simp only [actS]
         apply Run.valG (by go_simp)
         ·intro w1 h1 hk
          go_simp;rfl
         simp only [actS]
         apply Run.valG (wanted_none rfl _)
         ·intro w1 h1 hk
          go_simp;rfl
         simp only [actS]
         apply Run.done
         intro w2 h2 hk
         clear hk
         have F9:=Lib.hid (hFz.out.trans ((Fut.drew _).trans h2))
         clear h2
         go_wp2
         go_roundw
         case rel => exact ⟨j + 1,by omega,by go_num,by rw [hx9'.out];rfl,F9⟩
         case measure => simp [intOf] <;> omega
        | some b =>
         have hbn:b < n:=by have:=pickP_lt hpj;omega
         rw [hpj] at hx hx9
         unfold pkV at hx
         dsimp only at hx
         subst hx
         have hjT:j < T.out.length:=by rw [hn'.out];exact hlj
         have hbT:b < T.out.length:=by rw [hn'.out];exact hbn
         obtain ⟨bj,oj,vj,hej,zj,hvj⟩:=ls_at HO.out.rep hjT
         obtain ⟨bb,ob,vb,heb,zb,hvb⟩:=ls_at HO.out.rep hbT
         obtain ⟨gj,pj,cj,rfl,xj⟩:=headN_at hvj (hSd'.out.ne _ (List.getElem_mem hjT))
         obtain ⟨gb,pb,cb,rfl,xb⟩:=headN_at hvb (hSd'.out.ne _ (List.getElem_mem hbT))
         have hlj0:0 < (T.out[j]).length:=List.length_pos_iff.2 (hSd'.out.ne _ (List.getElem_mem hjT))
         have hlb0:0 < (T.out[b]).length:=List.length_pos_iff.2 (hSd'.out.ne _ (List.getElem_mem hbT))
         rw [← headP_at hjT] at xj
         rw [← headP_at hbT] at xb
         generalize (T.out[j]).length = lj at *
         generalize (T.out[b]).length = lb at *
         subst hej
         injection heb with heb
         injection heb with he1 he2 _
         subst he1;subst he2
         have FW:=hFr.out.trans hFz.out
         have zj1:=FW.cell zj
         have zb1:=FW.cell zb
         have xj1:=FW.cell xj
         have xb1:=FW.cell xb
         have hljI0:(0:Int) < lj:=by omega
         have hlbI0:(0:Int) < lb:=by omega
         have hbnI:(b:Int) < n:=by omega
         have eb2:(0:Int) ≤ b∧(b:Int) < n:=by omega
         have hbneg:¬ (b:Int) < 0:=by omega
         have hless:=less_cmpS (headP T j) (headP T b)
         clear zj zb xj xb hvj hvb FW
         by_cases hc:cmpS (headP T j) (headP T b) < 0
         ·rw [decide_eq_true hc] at hless
          have hx9':=Lib.hid (hx9.trans (if_pos ⟨rfl,decide_eq_true hc⟩))
          generalize headP T j = sj at *
          generalize headP T b = sb at *
          clear hx9 hc
          go_wp2
          refine wp_graph 21 [.d,.d,.d,.d,.d,.d,.d,.d,.d,.d,.d,.d,.d,.d,.d,.d,.d,.d,.d,.d,.d] (by kernel_rfl) (by kernel_rfl) (by kernel_rfl) ?_
          simp only [takS,Exs]
          iterate 21 apply Exists.intro
          iterate 3
           apply Run.valG (wanted_none rfl _)
           ·intro w1 h1 hk
            go_simp;rfl
           simp only [actS]
          iterate 6
           apply Run.valG (by go_simp)
           ·intro w1 h1 hk
            go_simp;rfl
           simp only [actS]
          apply Run.valG (by go_simp)
          ·intro w1 h1 hk
           have r1:=h1.cell zj1;have r2:=h1.cell zb1;have r3:=h1.cell xj1;have r4:=h1.cell xb1
           have hcw:=fun b o => Below.cell (p:=⟨b,o,none⟩) h1
           go_simp;rfl
          simp only [actS]
          apply Run.valG (by go_simp)
          ·intro w1 h1 hk
           go_simp;rfl
          simp only [actS]
          apply Run.valG (by go_simp)
          ·intro w1 h1 hk
           have r1:=h1.cell zj1;have r2:=h1.cell zb1;have r3:=h1.cell xj1;have r4:=h1.cell xb1
           have hcw:=fun b o => Below.cell (p:=⟨b,o,none⟩) h1
           go_simp;rfl
          simp only [actS]
          iterate 3
           apply Run.valG (by go_simp)
           ·intro w1 h1 hk
            go_simp;rfl
           simp only [actS]
          apply Run.valG (by go_simp)
          ·intro w1 h1 hk
           have r1:=h1.cell zj1;have r2:=h1.cell zb1;have r3:=h1.cell xj1;have r4:=h1.cell xb1
           have hcw:=fun b o => Below.cell (p:=⟨b,o,none⟩) h1
           go_simp;rfl
          simp only [actS]
          apply Run.valG (by go_simp)
          ·intro w1 h1 hk
           go_simp;rfl
          simp only [actS]
          apply Run.valG (by go_simp)
          ·intro w1 h1 hk
           have r1:=h1.cell zj1;have r2:=h1.cell zb1;have r3:=h1.cell xj1;have r4:=h1.cell xb1
           have hcw:=fun b o => Below.cell (p:=⟨b,o,none⟩) h1
           go_simp;rfl
          simp only [actS]
          iterate 2
           apply Run.valG (by go_simp)
           ·intro w1 h1 hk
            go_simp;rfl
           simp only [actS]
          apply Run.valG (wanted_none rfl _)
          ·intro w1 h1 hk
           go_simp;rfl
          simp only [actS]
          apply Run.done
          intro w2 h2 hk
          clear hk
          have F9:=Lib.hid (hFz.out.trans ((Fut.drew _).trans h2))
          clear h2
          go_wp2
          go_roundw
          case rel => exact ⟨j + 1,by omega,by go_num,by rw [hx9'.out];rfl,F9⟩
          case measure => simp [intOf] <;> omega
         ·rw [decide_eq_false hc] at hless
          have hx9':=Lib.hid (hx9.trans (if_neg (fun h => hc (of_decide_eq_true h.2))))
          generalize headP T j = sj at *
          generalize headP T b = sb at *
          clear hx9 hc
          go_wp2
          refine wp_graph 21 [.d,.d,.d,.d,.d,.d,.d,.d,.d,.d,.d,.d,.d,.d,.d,.d,.d,.d,.d,.d,.d] (by kernel_rfl) (by kernel_rfl) (by kernel_rfl) ?_
          simp only [takS,Exs]
          iterate 21 apply Exists.intro
          iterate 3
           apply Run.valG (wanted_none rfl _)
           ·intro w1 h1 hk
            go_simp;rfl
           simp only [actS]
          iterate 6
           apply Run.valG (by go_simp)
           ·intro w1 h1 hk
            go_simp;rfl
           simp only [actS]
          apply Run.valG (by go_simp)
          ·intro w1 h1 hk
           have r1:=h1.cell zj1;have r2:=h1.cell zb1;have r3:=h1.cell xj1;have r4:=h1.cell xb1
           have hcw:=fun b o => Below.cell (p:=⟨b,o,none⟩) h1
           go_simp;rfl
          simp only [actS]
          apply Run.valG (by go_simp)
          ·intro w1 h1 hk
           go_simp;rfl
          simp only [actS]
          apply Run.valG (by go_simp)
          ·intro w1 h1 hk
           have r1:=h1.cell zj1;have r2:=h1.cell zb1;have r3:=h1.cell xj1;have r4:=h1.cell xb1
           have hcw:=fun b o => Below.cell (p:=⟨b,o,none⟩) h1
           go_simp;rfl
          simp only [actS]
          iterate 3
           apply Run.valG (by go_simp)
           ·intro w1 h1 hk
            go_simp;rfl
           simp only [actS]
          apply Run.valG (by go_simp)
          ·intro w1 h1 hk
           have r1:=h1.cell zj1;have r2:=h1.cell zb1;have r3:=h1.cell xj1;have r4:=h1.cell xb1
           have hcw:=fun b o => Below.cell (p:=⟨b,o,none⟩) h1
           go_simp;rfl
          simp only [actS]
          apply Run.valG (by go_simp)
          ·intro w1 h1 hk
           go_simp;rfl
          simp only [actS]
          apply Run.valG (by go_simp)
          ·intro w1 h1 hk
           have r1:=h1.cell zj1;have r2:=h1.cell zb1;have r3:=h1.cell xj1;have r4:=h1.cell xb1
           have hcw:=fun b o => Below.cell (p:=⟨b,o,none⟩) h1
           go_simp;rfl
          simp only [actS]
          iterate 2
           apply Run.valG (by go_simp)
           ·intro w1 h1 hk
            go_simp;rfl
           simp only [actS]
          apply Run.valG (wanted_none rfl _)
          ·intro w1 h1 hk
           go_simp;rfl
          simp only [actS]
          apply Run.done
          intro w2 h2 hk
          clear hk
          have F9:=Lib.hid (hFz.out.trans ((Fut.drew _).trans h2))
          clear h2
          go_wp2
          go_roundw
          case rel => exact ⟨j + 1,by omega,by go_num,by rw [hx9'.out];rfl,F9⟩
          case measure => simp [intOf] <;> omega
       ·have w1:(wj == 0) = false:=by rw [beq_eq_false_iff_ne];exact hw0
        have hx9':=Lib.hid (hx9.trans (if_neg (fun h => hw0 h.1)))
        clear hx9
        go_wp2
        refine wp_graph 21 [.d,.d,.d,.d,.d,.d,.d,.d,.d,.d,.d,.d,.d,.d,.d,.d,.d,.d,.d,.d,.d] (by kernel_rfl) (by kernel_rfl) (by kernel_rfl) ?_
        simp only [takS,Exs]
        iterate 21 apply Exists.intro
        iterate 3
         apply Run.valG (wanted_none rfl _)
         ·intro w1 h1 hk
          go_simp;rfl
         simp only [actS]
        iterate 17
         apply Run.skip (by first | (go_simp;done) | (go_simp;exact fun h => nomatch h))
         simp only [actS]
        apply Run.valG (wanted_none rfl _)
        ·intro w1 h1 hk
         go_simp;rfl
        simp only [actS]
        apply Run.done
        intro w2 h2 hk
        clear hk
        have F9:=Lib.hid (hFz.out.trans ((Fut.drew _).trans h2))
        clear h2
        go_wp2
        go_roundw
        case rel => exact ⟨j + 1,by omega,by go_num,by rw [hx9'.out];exact hx,F9⟩
        case measure => simp [intOf] <;> omega
      ·obtain rfl:n = j:=by omega
       rw [hpa'.out] at hx
       unfold pkV at hx
       dsimp only at hx
       subst hx
       have hanI:(a:Int) < n:=by omega
       have ea:(0:Int) ≤ a∧(a:Int) < n:=by omega
       have hA1:=hA.out.fut hFz.out
       have d0:=hA1.wait.cell han
       have d1:=hA1.wait.free a
       have hS9:=hA1.setWait a (-1)
       have hO9:Only (fun j => j = w2.heap.size) wz (wz.setCell ⟨w2.heap.size,a,none⟩ (.int .i64 (-1))):=Only.set _ _ rfl
       obtain ⟨wS,hwS⟩:∃ x,wz.setCell ⟨w2.heap.size,a,none⟩ (.int .i64 (-1)) = x:=⟨_,rfl⟩
       rw [hwS] at hS9 hO9
       have hOu1:=hOu.out.fut RLs.stays hFz.out
       have hOuS:OwnL 1 (w2.heap.size + 2) 76 (RLs w.heap.size (.slice none 0 0)) wS _ (dn.map fun a => T.out.getD a []):=hOu1.only (fun cs x hx => hx.only hO9 fun k arr hk e => by
        obtain ⟨arr2,g,_⟩:=hA1.wait
        exact other_block hk g (by decide) e) hO9 fun k hk e => by
        have:=(hOu1.block k hk).1
        omega
       have hFS:Fut w2 wS:=((Only.fut (hFr.out.trans hFz.out)).trans (hO9.mono (S':=fun j => w2.heap.size ≤ j) fun k _ e => by omega)).toFut fun k h => h
       obtain ⟨va,y1,hva⟩:=hS9.aboveAt han
       obtain ⟨Aa,ca,rfl,hal1,hal2⟩:=hva.rep.form
       have hall:=aboveP_len G T n a
       have hal3:(aboveP G T n a).length ≤ 9223372036854775807:=by omega
       have hallt:=Lib.hid (aboveP_lt (G:=G) (T:=T) (n:=n) (j:=a))
       have hlayh:layP G T wt a = (aboveP G T n a).foldl downP (fun j => if j = a then -1 else wt j):=by unfold layP;rw [hn'.out]
       replace hS9:=Lib.hid hS9
       replace hOuS:=Lib.hid hOuS
       replace hFS:=Lib.hid hFS
       replace hva:=Lib.hid hva
       rw [← hwS] at y1
       replace hwS:=Lib.hid hwS
       replace hlayh:=Lib.hid hlayh
       obtain ⟨al,hal⟩:∃ al,aboveP G T n a = al:=⟨_,rfl⟩
       rw [hal] at hva hlayh hallt hal3 hall y1
       generalize (fun j => if j = a then -1 else wt j) = wt1 at *
       clear hOu1 hO9 hA1 hal hFz hA hOu hFr hal1 hal2
       go_wp2_with fail
       rw [hwS.out]
       go_loopw [133] (fun i wz => ∃ m:Nat,m ≤ al.length∧i = .int .i64 m∧Hid (AbI wz w2.heap.size (w2.heap.size + 1) (w2.heap.size + 2) n ((al.take m).foldl downP wt1) (aboveP G T n))∧Hid (Fut w2 wz)∧Hid (OwnL 1 (w2.heap.size + 2) 3 RIn wz (.slice Aa al.length ca) al)∧Hid (OwnL 1 (w2.heap.size + 2) 76 (RLs w.heap.size (.slice none 0 0)) wz u16 (dn.map fun a => T.out.getD a []))) (fun i _ => al.length - (intOf i).toNat)
       case atStart => exact ⟨0,Nat.zero_le _,rfl,hS9,hFS,hva,hOuS⟩
       case round =>
        obtain ⟨m8,hm8,rfl,hA8,hF8,hv8,hO8⟩:=hrel
        obtain ⟨wy,rfl⟩:∃ x,x = wr:=⟨_,rfl⟩
        by_cases hlm:m8 < al.length
        ·have hlmI:(m8:Int) < al.length:=by omega
         have e3:(0:Int) ≤ m8∧(m8:Int) < al.length:=by omega
         obtain ⟨b3,off3,rfl,z3⟩:=in_at hv8.out.rep hlm
         have hx3:=hallt.out _ (List.getElem_mem hlm)
         have hnx3:=Lib.hid (show (al.take (m8 + 1)).foldl downP wt1 = downP ((al.take m8).foldl downP wt1) al[m8] by rw [List.take_succ_eq_append_getElem hlm,List.foldl_append];rfl)
         generalize al[m8] = x at *
         generalize (al.take m8).foldl downP wt1 = wt2 at *
         have hxI:(x:Int) < n:=by omega
         have e4:(0:Int) ≤ x∧(x:Int) < n:=by omega
         have k0:=hA8.out.wait.cell hx3
         have k1:=hA8.out.wait.free x
         have hS7:=hA8.out.setWait x (wrapP (wt2 x - 1))
         have hO7:Only (fun j => j = w2.heap.size) wy (wy.setCell ⟨w2.heap.size,x,none⟩ (.int .i64 (wrapP (wt2 x - 1)))):=Only.set _ _ rfl
         unfold wrapP at hS7 hO7
         obtain ⟨wT,hwT⟩:∃ y,wy.setCell ⟨w2.heap.size,x,none⟩ (.int .i64 (wrap64 (wt2 x - 1))) = y:=⟨_,rfl⟩
         rw [hwT] at hS7 hO7
         have HS7:=Lib.hid (show AbI wT w2.heap.size (w2.heap.size + 1) (w2.heap.size + 2) n ((al.take (m8 + 1)).foldl downP wt1) (aboveP G T n) by rw [hnx3.out];exact hS7)
         have HF7:=Lib.hid (((Only.fut hF8.out).trans (hO7.mono (S':=fun j => w2.heap.size ≤ j) fun k _ e => by omega)).toFut fun k h => h)
         have HV7:=Lib.hid (show OwnL 1 (w2.heap.size + 2) 3 RIn wT (.slice (some ⟨b3,off3,none⟩) al.length ca) al from hv8.out.only (fun _ _ h => h) hO7 fun k hk e => by have:=(hv8.out.block k hk).1;omega)
         have HOu7:=Lib.hid (show OwnL 1 (w2.heap.size + 2) 76 (RLs w.heap.size (.slice none 0 0)) wT u16 (dn.map fun a => T.out.getD a []) from hO8.out.only (fun cs x hx => hx.only hO7 fun k arr hk e => by
          obtain ⟨arr2,g,_⟩:=hA8.out.wait
          exact other_block hk g (by decide) e) hO7 fun k hk e => by
          have:=(hO8.out.block k hk).1
          omega)
         replace hwT:=Lib.hid hwT
         generalize wt2 x = wx at *
         clear hA8 hF8 hv8 hO8 hS7 hO7
         go_wp2
         rw [hwT.out]
         go_roundw
         case rel => exact ⟨m8 + 1,by omega,by go_num,HS7,HF7,HV7,HOu7⟩
         case measure => simp [intOf] <;> omega
        ·obtain rfl:m8 = al.length:=by omega
         rw [List.take_length,← hlayh.out] at hA8
         have haT:a < T.out.length:=by rw [hn'.out];exact han
         obtain ⟨ba,oa,va,hea,za,hva2⟩:=ls_at HO.out.rep haT
         subst hea
         have za1:=hF8.out.cell za
         have hgd:T.out.getD a [] = T.out[a]:=by rw [List.getD_eq_getElem?_getD,List.getElem?_eq_getElem haT];rfl
         rw [← hgd] at hva2
         have hdl8:(dn.map fun a => T.out.getD a []).length ≤ 100000000:=by rw [List.length_map,hdl.out];omega
         have hnxt:=Lib.hid (show ((dn ++ [a]).map fun a => T.out.getD a []) = (dn.map fun a => T.out.getD a []) ++ [T.out.getD a []] by rw [List.map_append];rfl)
         have hdr2:=Lib.hid (show (dn ++ [a]) ++ rest' = l0 by rw [List.append_assoc];exact hdr.out)
         have hdl2:=Lib.hid (show (dn ++ [a]).length = q + 1 by rw [List.length_append,hdl.out];rfl)
         have hre2:=Lib.hid (show ordP G T (n - (q + 1)) (layP G T wt a) = some rest' by rw [show n - (q + 1) = m by have:=hm9'.out;omega];exact hre'.out)
         obtain ⟨pa,hpa9⟩:∃ p,T.out.getD a [] = p:=⟨_,rfl⟩
         rw [hpa9] at hva2 hnxt
         generalize (dn.map fun a => T.out.getD a []) = dnl at *
         obtain ⟨Ao,co,rfl,ho1,ho2⟩:=hO8.out.rep.form
         have hb9:w2.heap.size + 2 ≤ wy.heap.size:=hA8.out.low.2.2.2
         have fa:=Fut.alloc wy (.cells #[va] 76)
         have hva3:=Lib.hid (hva2.fut RNm.stays hF8.out)
         have hvA:∃ A9 c9,va = .slice A9 pa.length c9:=by obtain ⟨A9,c9,h,_,_⟩:=hva2.rep.form;exact ⟨A9,c9,h⟩
         obtain ⟨A9,c9,rfl⟩:=hvA
         clear hva2 za hgd hpa9 ho1 ho2 HO
         go_wp2_with (first | (at_builtin;refine wpList_append_LB (R:=RLs w.heap.size (.slice none 0 0)) (B:=w2.heap.size + 2) (M:=1) (xs:=dnl) (ys:=[pa]) (e:=76) (by go_simp) _ _ tLL rfl Tryz.underlying25 (.slice none 0 0) 24 infoTL rfl (by decide) RLs.one RLs.keeps rfl rfl (hO8.out.fut RLs.stays fa) (llOne _ _ hva3.out (Nat.le_refl _) (fun k _ e => by cases e)) ?l3 ?l4 ?b3 ?k3))
         case l3 => simp [maxLen];omega
         case l4 => simp;omega
         case b3 => simp;omega
         case k3 =>
         intro v' w' o' g' sn'
         have HO9:=Lib.hid (by rw [← hnxt.out] at o';exact o')
         have g9:Only (fun k => (Value.slice Ao dnl.length co).ownBlock = some k) (wy.alloc (.cells #[.slice A9 pa.length c9] 76)) w':=Only.grown g' fun k hk => hk
         have HF9:=Lib.hid (show Fut w2 w' from ((Only.fut (hF8.out.trans fa)).trans (g9.mono (S':=fun j => w2.heap.size ≤ j) fun k _ e => by have:=(hO8.out.block k e).1;omega)).toFut fun k h => h)
         have HA9:=Lib.hid ((hA8.out.fut fa).only2 g9 fun k arr t ht hk e => by
          obtain ⟨arr2,h9⟩:=(hO8.out.fut RLs.stays fa).typed k e
          exact other_block hk h9 (by rcases ht with rfl | rfl <;> decide) rfl)
         clear o' g' sn' g9 hA8 hF8 hO8 hv8 hS9 hFS hva hOuS hwS hallt
         go_wp2
         go_roundw
         case rel => exact ⟨q + 1,_,dn ++ [a],rest',by omega,by go_num,hre2,hdr2,hdl2,HA9,HO9,HF9⟩
         case measure => simp [intOf] <;> omega
    ·obtain rfl:n = q:=by omega
     have hor':=hor.out
     rw [Nat.sub_self] at hor'
     unfold ordP at hor'
     have hr0:rest = []:=(Option.some.inj hor').symm
     have hdn:dn = l0:=by
      have:=hdr.out
      rw [hr0,List.append_nil] at this
      exact this
     have HFin:=Lib.hid (show OwnL 1 w.heap.size 76 (RLs w.heap.size (.slice none 0 0)) wA u16 (l0.map fun a => T.out.getD a [])∧Fut w wA from ⟨by rw [← hdn];exact hOu.out.base (by have:=F2.out.size;omega),F2.out.trans hFr.out⟩)
     clear hor' hor hdr hdl hA hOu hFr hF hI HO
     go_wp2
     (try simp only [Exit.inBlock,Exit.then])
     refine bodyPost_ret (v:=u16) (by simp [results,Tryz.results9,go_sem]) rfl ?_
     exact ⟨_,rfl,HFin.out.1,HFin.out.2⟩
end Go.Proofs.YtobabnpllokkaaaGreatDoor
