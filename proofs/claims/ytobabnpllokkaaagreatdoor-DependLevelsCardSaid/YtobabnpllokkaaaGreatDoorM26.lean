/- Parts. -/
import Derived.Test.YtobabnpllokkaaaGreatDoorM19
import Derived.Test.YtobabnpllokkaaaGreatDoorM17
import Derived.Test.YtobabnpllokkaaaGreatDoorM12
import Derived.Test.YtobabnpllokkaaaGreatDoorM23
import Derived.Test.YtobabnpllokkaaaGreatDoorM06
import Derived.Test.YtobabnpllokkaaaGreatDoorM20
import Derived.Test.YtobabnpllokkaaaGreatDoorM24
import Derived.Test.YtobabnpllokkaaaGreatDoorM00
set_option linter.unusedSimpArgs false
set_option linter.unusedVariables false
namespace Go.Proofs.YtobabnpllokkaaaGreatDoor
open Go.RowKit
theorem tri_of {rs:List Ru} {e:Ed} (he:e ∈ edgesP rs):∃ r ∈ rs,∃ l ∈ r.b,l.isA = true∧e.f = r.p∧e.t = l.p∧e.k = if l.k = 2 then 2 else r.kind:=by
 obtain ⟨r,hr,hx⟩:=edge_tri.1 ⟨e,he,rfl⟩
 obtain ⟨l,hl,hq⟩:=List.mem_map.1 hx
 obtain ⟨h1,h2⟩:=List.mem_filter.1 hl
 unfold Ed.tri at hq
 injection hq with q1 q2
 injection q2 with q2 q3
 exact ⟨r,hr,l,h1,h2,q1.symm,q2.symm,q3.symm⟩
section
variable {rs:List Ru} {L:List ByteArray}
end
end Go.Proofs.YtobabnpllokkaaaGreatDoor
namespace Go.Proofs.YtobabnpllokkaaaGreatDoor
open Go.RowKit Go.WideMaps Go.Maps
def NoRound (rs:List Ru):Prop:=∀ e ∈ edgesP rs,¬ RoundE rs e
theorem kind_ofW {rs:List Ru} {e:Ed} (he:e ∈ edgesP rs) (hs:e.strict = true):e.k = 2∨e.k = 3∨e.k = 4:=by
 obtain ⟨r,hr,l,hl,ha,e1,e2,e3⟩:=tri_of he
 have h1:e.k ≠ 1:=fun h9 => by
  unfold Ed.strict at hs
  rw [h9] at hs
  exact absurd hs (by decide)
 by_cases h2:l.k = 2
 ·rw [if_pos h2] at e3
  exact .inl e3
 ·rw [if_neg h2] at e3
  unfold Ru.kind at e3
  split at e3
  ·exact .inr (.inl e3)
  ·split at e3
   ·exact .inr (.inr e3)
   ·exact absurd e3 h1
def LvAns (rs:List Ru) (l:List (ByteArray × Nat)) (n ee:Int):Prop :=
 (∃ a x b,edgesP rs = a ++ x :: b∧RoundE rs x∧(∀ y ∈ a,¬ RoundE rs y)∧l = []∧n = x.r∧ee = x.errno) ∨
  (NoRound rs∧∃ nf,LeastL (edgesP rs) nf∧l = ((drawP rs).sorted.map fun s => (s,nf s))∧n = 0∧ee = 0)
theorem lvAns_len {rs:List Ru} (hS:Small rs) {l:List (ByteArray × Nat)} {n ee:Int} (h:LvAns rs l n ee):l.length ≤ 10000000:=by
 rcases h with ⟨_,_,_,_,_,_,rfl,_⟩ | ⟨_,nf,_,rfl,_⟩
 ·exact Nat.zero_le _
 ·have h1:=draw_len hS
  have h2:=gsorted_len (drawP rs)
  have h3:(drawP rs).names.length = (drawP rs).length:=List.length_map _
  rw [List.length_map]
  omega
theorem first_uniq {α:Type} {P:α→Prop}:∀ {a a' b b':List α} {x x':α},a ++ x :: b = a' ++ x' :: b'→P x→P x'→(∀ y ∈ a,¬ P y)→(∀ y ∈ a',¬ P y)→x = x'
 | [],[],_,_,_,_,h,_,_,_,_ => by
  injection h with h _
 | [],y :: a',_,_,x,_,h,hx,_,_,ha' => by
  injection h with h _
  exact absurd (h ▸ hx) (ha' y List.mem_cons_self)
 | y :: a,[],_,_,_,x',h,_,hx',ha,_ => by
  injection h with h _
  exact absurd (h ▸ hx') (ha y List.mem_cons_self)
 | y :: a,z :: a',_,_,_,_,h,hx,hx',ha,ha' => by
  injection h with _ h
  exact first_uniq h hx hx' (fun q hq => ha q (List.mem_cons_of_mem _ hq)) (fun q hq => ha' q (List.mem_cons_of_mem _ hq))
theorem LvAns.uniq {rs:List Ru} {l l':List (ByteArray × Nat)} {n n' ee ee':Int} (h:LvAns rs l n ee) (h':LvAns rs l' n' ee'):l = l'∧n = n'∧ee = ee':=by
 rcases h with ⟨a,x,b,h1,h2,h3,rfl,rfl,rfl⟩ | ⟨h1,nf,h2,rfl,rfl,rfl⟩
 ·have hm:x ∈ edgesP rs:=by rw [h1];simp
  rcases h' with ⟨a',x',b',k1,k2,k3,rfl,rfl,rfl⟩ | ⟨k1,_⟩
  ·obtain rfl:=first_uniq (h1.symm.trans k1) h2 k2 h3 k3
   exact ⟨rfl,rfl,rfl⟩
  ·exact absurd h2 (k1 x hm)
 ·rcases h' with ⟨a',x',b',k1,k2,k3,_⟩ | ⟨_,nf',k2,rfl,rfl,rfl⟩
  ·exact absurd k2 (h1 x' (by rw [k1];simp))
  ·exact ⟨levels_move (fun r => Iff.rfl) h2 k2,rfl,rfl⟩
theorem levelsA_any {M:Nat} (A:Option Addr) (c:Nat) (rs:List Ru) (w:World) (h:SlRep 3 M RRu w (.slice A rs.length c) rs) (hM:M ≤ 9223372036854775807) (hS:Small rs) :
    Calls Tryz.prog 74 #[.agg #[.slice A rs.length c]] w fun e w' => ∃ lv n ee l,e = .returned (.tuple #[lv,.int .i64 n,.int .i64 ee])∧OwnL 2 w.heap.size tLev RLv w' lv l∧LvAns rs l n ee∧Fut w w':=by
 refine (levelsAll_any A c rs w h hM hS).mono ?_
 rintro e w' ⟨hres,hf⟩
 rcases hres with ⟨a,x,b,hes,hx,ha,rfl⟩ | ⟨hno,nf,v,hnf,rfl,hO⟩
 ·exact ⟨_,_,_,[],rfl,OwnL.nil,.inl ⟨a,x,b,hes,hx,ha,rfl,rfl,rfl⟩,hf⟩
 ·exact ⟨_,_,_,_,rfl,hO,.inr ⟨hno,nf,hnf,rfl,rfl,rfl⟩,hf⟩
set_option maxHeartbeats 1600000 in
theorem lawLevels_any {M M':Nat} (A:Option Addr) (c:Nat) (rs:List Ru) (wv:Value) (l:List (ByteArray × Nat)) (n ee:Int) (w:World) (h:SlRep 3 M RRu w (.slice A rs.length c) rs) (hM:M ≤ 9223372036854775807) (hS:Small rs) (hw:SlRep 2 M' RLv w wv l) (hL:LvAns rs l n ee) :
    Calls Tryz.prog 18 #[.slice A rs.length c,wv,.int .i64 n,.int .i64 ee] w fun e w' => ∃ v,e = .returned (.tuple #[v,.bool true])∧OwnL 2 w.heap.size tLev RLv w' v l∧Fut w w':=by
 have HW:=Lib.hid hw
 have HLv:=Lib.hid (levelsA_any A c rs w h hM hS)
 have HA:=Lib.hid hL
 obtain ⟨A1,c1,rfl,_,_⟩:=hw.form
 clear h hw hL
 go_enter Tryz.func18,Tryz.ntmps18
 go_wp2_with fail
 refine HLv.out.mono ?_
 rintro e w1 ⟨lv,n',e',l',rfl,hO,hA,f1⟩
 obtain ⟨rfl,rfl,rfl⟩:=HA.out.uniq hA
 obtain ⟨B1,d1,rfl,_,_⟩:=hO.rep.form
 have HO:=Lib.hid hO
 have F1:=Lib.hid f1
 have HS:=Lib.hid (sameLv_any _ _ l w1 hO.rep (HW.out.fut RLv.stays f1) (by decide))
 clear hO hA f1 HLv
 go_wp2_with fail
 refine HS.out.mono ?_
 rintro e w2 ⟨rfl,f2⟩
 go_wp2
 (try simp only [Exit.inBlock,Exit.then])
 refine bodyPost_ret (v:=.tuple #[.slice B1 l.length d1,.bool true]) (by simp [results,Tryz.results18,go_sem]) rfl ?_
 exact ⟨_,rfl,HO.out.fut RLv.stays f2,F1.out.trans f2⟩
set_option maxHeartbeats 1600000 in
theorem rcomes_any {M:Nat} (A:Option Addr) (c:Nat) (rs:List Ru) (es:List Ed) (p q:ByteArray) (w:World) (hes:edgesP rs = es) (h:SlRep 4 M REd w (.slice A es.length c) es) (hM:M ≤ 9223372036854775807) (hel:es.length ≤ 10000000) :
    Calls Tryz.prog 31 #[.slice A es.length c,.string p,.string q] w fun e w' => ∃ b,e = .returned (.bool b)∧(b = true↔Rch (drawP rs) p q)∧Fut w w':=by
 have HR:=Lib.hid (rreach_any A c rs es p w hes h hM hel)
 clear h hes
 go_enter Tryz.func31,Tryz.ntmps31
 go_wp2_with fail
 refine HR.out.mono ?_
 rintro e w1 ⟨v,L,rfl,hL,hO,f1⟩
 obtain ⟨A1,c1,rfl,_,_⟩:=hO.rep.form
 have HH:=Lib.hid (rhas9_any q A1 c1 L w1 hO.rep (by decide))
 have hq:decide (q ∈ L) = true↔Rch (drawP rs) p q:=by rw [decide_eq_true_iff];exact hL.2 q
 have Hq:=Lib.hid hq
 have F1:=Lib.hid f1
 generalize decide (q ∈ L) = b at *
 clear hO hL hq f1
 go_wp2_with fail
 refine HH.out.mono ?_
 rintro e w2 ⟨rfl,rfl⟩
 go_wp2
 go_ret
 exact ⟨b,rfl,Hq.out,F1.out⟩
theorem rcomesT {M:Nat} (A:Option Addr) (c:Nat) (rs:List Ru) (es:List Ed) (p q:ByteArray) (w:World) (hes:edgesP rs = es) (h:SlRep 4 M REd w (.slice A es.length c) es) (hM:M ≤ 9223372036854775807) (hel:es.length ≤ 10000000) (hr:Rch (drawP rs) p q) :
    Calls Tryz.prog 31 #[.slice A es.length c,.string p,.string q] w fun e w' => e = .returned (.bool true)∧Fut w w':=by
 refine (rcomes_any A c rs es p q w hes h hM hel).mono ?_
 rintro e w' ⟨b,rfl,hb,hf⟩
 rw [hb.2 hr]
 exact ⟨rfl,hf⟩
theorem rcomesN {M:Nat} (A:Option Addr) (c:Nat) (rs:List Ru) (es:List Ed) (p q:ByteArray) (w:World) (hes:edgesP rs = es) (h:SlRep 4 M REd w (.slice A es.length c) es) (hM:M ≤ 9223372036854775807) (hel:es.length ≤ 10000000) (hr:¬ Rch (drawP rs) p q) :
    Calls Tryz.prog 31 #[.slice A es.length c,.string p,.string q] w fun e w' => e = .returned (.bool false)∧Fut w w':=by
 refine (rcomes_any A c rs es p q w hes h hM hel).mono ?_
 rintro e w' ⟨b,rfl,hb,hf⟩
 cases b
 ·exact ⟨rfl,hf⟩
 ·exact absurd (hb.1 rfl) hr
set_option maxHeartbeats 1600000 in
set_option maxRecDepth 100000 in
theorem rat9_any {M:Nat} (s:ByteArray) (A:Option Addr) (c:Nat) (L:List ByteArray) (w:World) (h:SlRep 1 M RNm w (.slice A L.length c) L) (hM:M ≤ 9223372036854775807) (hn:L.Nodup) (q:Nat) (hq:L[q]? = some s) :
    Calls Tryz.prog 78 #[.slice A L.length c,.string s] w fun e w' => e = .returned (.int .i64 (q:Nat))∧w' = w:=by
 have H:=Lib.hid h
 obtain ⟨_,_,hv,hl1,hl2⟩:=h.form
 have hxl:L.length ≤ 9223372036854775807:=by omega
 have hql:q < L.length:=(List.getElem?_eq_some_iff.1 hq).1
 have Hn:=Lib.hid (fun (k:Nat) (hk:k < L.length) (e:L[k] = s) => (show k = q from by
  have h1:L[k] = L[q]:=by rw [e];exact (List.getElem?_eq_some_iff.1 hq).2.symm
  exact (List.getElem_inj hn).1 h1))
 have Hq:=Lib.hid hq
 clear h hv hl1 hl2 hn hq
 go_enter Tryz.func78,Tryz.ntmps78
 go_wp2_with fail
 go_loopw [5] (fun i wr => ∃ k:Nat,k ≤ q∧i = .int .i64 k∧Hid (wr = w)) (fun i _ => L.length - (intOf i).toNat)
 case atStart => exact ⟨0,Nat.zero_le _,rfl,Lib.hid rfl⟩
 case round =>
  obtain ⟨k,hk,rfl,hW⟩:=hrel
  obtain rfl:=hW.out
  have hlt:k < L.length:=by omega
  have hltI:(k:Int) < L.length:=by omega
  have e0:(0:Int) ≤ k∧(k:Int) < L.length:=by omega
  obtain ⟨b',off,rfl,u0⟩:=nm_at H.out hlt
  have hne:=Lib.hid (Hn.out k hlt)
  have heq:=Lib.hid (show k = q→L[k] = s from fun e => by subst e;exact (List.getElem?_eq_some_iff.1 Hq.out).2)
  generalize L[k] = z at *
  by_cases hz:z = s
  ·obtain rfl:k = q:=hne.out hz
   subst hz
   go_wp2
   go_ret
   exact ⟨rfl,rfl⟩
  ·have hkq:k < q:=by
     rcases Nat.lt_or_ge k q with h9 | h9
     ·exact h9
     ·exact absurd (heq.out (by omega)) hz
   have hzb:=ba_neW hz
   go_wp2
   go_roundw
   case rel => exact ⟨k + 1,by omega,by go_num,(by first | exact Lib.hid trivial | exact Lib.hid rfl)⟩
   case measure => simp [intOf] <;> omega
theorem results_cell_tmp {P:Program} {fn:Func} {p q:Tmp} {ty:TypeId} (h:fn.results = #[.cell p ty,.tmp q]) (tmps:Array Value) (w:World) (g:Nat) (t:TypeId) (cs:Array Value) (fr:Nat × Nat) (d:TypeDesc) (v:Value)
    (hp:tmps.getD p undef = .pointer (some ⟨g,0,none⟩)) (hq:tmps.getD q undef = v) (hg:w.heap[g]? = some (.cells cs t fr))
    (hu:P.underlying ty = some d) (hd:(match d with | .struct _ | .array _ _ => true | _ => false) = true) (hi:(P.info? ty).map (·.size) = some cs.size) :
    (results fn tmps).run P w = .ok (.tuple #[.agg cs,v]) w:=by
 have hp':tmps[p]?.getD undef = .pointer (some ⟨g,0,none⟩):=by simpa using hp
 have hq':tmps[q]?.getD undef = v:=by simpa using hq
 simp [results,h,hp',hq',asAddr,run_loadVar_row w g t ty cs fr d hg hu hd hi]
theorem ed_one (x:Ed):∀ v ∈ ([.string x.f,.string x.t,.int .i8 x.k,.int .i64 x.r]:List Value),v.oneCell' = true:=fun v hv => by
 simp only [List.mem_cons,List.not_mem_nil,or_false] at hv
 rcases hv with rfl | rfl | rfl | rfl <;> rfl
set_option maxHeartbeats 4000000 in
set_option maxRecDepth 100000 in
theorem rblame_any {M:Nat} (A:Option Addr) (c:Nat) (rs:List Ru) (es:List Ed) (w:World) (hes:edgesP rs = es) (h:SlRep 4 M REd w (.slice A es.length c) es) (hM:M ≤ 9223372036854775807) (hel:es.length ≤ 10000000) :
    Calls Tryz.prog 77 #[.slice A es.length c] w fun e w' =>
     ((∃ a x b,es = a ++ x :: b∧RoundE rs x∧(∀ y ∈ a,¬ RoundE rs y)∧e = .returned (.tuple #[.agg #[.string x.f,.string x.t,.int .i8 x.k,.int .i64 x.r],.bool true])) ∨
      ((∀ y ∈ es,¬ RoundE rs y)∧e = .returned (.tuple #[.agg #[.string ⟨#[]⟩,.string ⟨#[]⟩,.int .i8 0,.int .i64 0],.bool false])))∧Fut w w':=by
 have H:=Lib.hid h
 have hi4:=infoEdS9
 have HT:=Lib.hid (fun p q hr W (hW:Fut w W) => rcomesT A c rs es p q W hes (h.fut REd.stays hW) hM hel hr)
 have HN:=Lib.hid (fun p q hr W (hW:Fut w W) => rcomesN A c rs es p q W hes (h.fut REd.stays hW) hM hel hr)
 have F0:=Lib.hid (Fut.alloc w (.cells #[.string ⟨#[]⟩,.string ⟨#[]⟩,.int .i8 0,.int .i64 0] tEdge))
 have HB0:=Lib.hid (heap_alloc_new w (.cells #[.string ⟨#[]⟩,.string ⟨#[]⟩,.int .i8 0,.int .i64 0] tEdge))
 obtain ⟨wa,hwa⟩:∃ W,w.alloc (.cells #[.string ⟨#[]⟩,.string ⟨#[]⟩,.int .i8 0,.int .i64 0] tEdge) = W:=⟨_,rfl⟩
 rw [hwa] at F0 HB0
 have Hwa:=Lib.hid hwa
 obtain ⟨gb,hgb⟩:∃ g,w.heap.size = g:=⟨_,rfl⟩
 rw [hgb] at HB0
 have Hgb:=Lib.hid hgb
 clear h hes hwa hgb
 go_enter Tryz.func77,Tryz.ntmps77
 go_wp2_with fail
 rw [Hwa.out,Hgb.out]
 go_loopw [4] (fun i W => ∃ k:Nat,k ≤ es.length∧i = .int .i64 k∧Hid (Fut wa W)∧Hid (∀ e ∈ es.take k,¬ RoundE rs e)) (fun i _ => es.length - (intOf i).toNat)
 case atStart => exact ⟨0,Nat.zero_le _,rfl,Lib.hid (Fut.refl _),Lib.hid (fun r hr => by simp at hr)⟩
 case round =>
  obtain ⟨k,hk,rfl,hF,hA⟩:=hrel
  obtain ⟨wz,hwz⟩:∃ x,x = wr:=⟨_,rfl⟩
  subst hwz
  have HB:=Lib.hid (hF.out.block HB0.out)
  by_cases hlt:k < es.length
  ·have hltI:(k:Int) < es.length:=by omega
   have e0:(0:Int) ≤ k∧(k:Int) < es.length:=by omega
   have F2:=Lib.hid (F0.out.trans hF.out)
   obtain ⟨b',off,rfl,hcs⟩:=ed_at (H.out.fut REd.stays F2.out) hlt
   have htk:=Lib.hid (List.take_succ_eq_append_getElem hlt)
   have hsp:=Lib.hid (show es = es.take k ++ es[k] :: es.drop (k + 1) from by rw [← List.drop_eq_getElem_cons hlt,List.take_append_drop])
   generalize es[k] = x at *
   have hcs9:=Lib.hid hcs
   have u0:=hcs 0 _ rfl
   have u1:wz.cell? ⟨b',off + k * 4 + 1,none⟩ = some (.string x.t):=hcs 1 _ rfl
   rw [Nat.add_zero] at u0
   have next:¬ RoundE rs x→Hid (∀ e ∈ es.take (k + 1),¬ RoundE rs e):=fun hx => Lib.hid fun y hy => by
    rw [htk.out,List.mem_append] at hy
    rcases hy with hy | hy
    ·exact hA.out y hy
    ·rw [List.mem_singleton] at hy;subst hy;exact hx
   replace next:=Lib.hid next
   have HSt:=Lib.hid (fun W => rstrict_any x W)
   clear hcs
   obtain ⟨s1,hs1⟩:∃ b,(!decide (x.k = 1)) = b:=⟨_,rfl⟩
   have hst:x.strict = s1:=hs1
   simp only [hs1] at HSt
   clear hs1
   cases s1
   ·have hA2:=next.out (fun h9 => by rw [h9.1] at hst;cases hst)
    clear hst next
    go_wp2_with fail
    refine wp_graph 19 [.d,.d,.d,.d,.d,.d,.d,.d,.d,.d,.d,.d,.d,.d,.d,.d,.d,.d,.d] (by kernel_rfl) (by kernel_rfl) (by kernel_rfl) ?_
    simp only [takS,Exs]
    iterate 19 apply Exists.intro
    iterate 3
     apply Run.valG (wanted_none rfl _)
     ·intro w1 h1 hk
      go_simp;rfl
     simp only [actS]
    apply Run.valG (wanted_none rfl _)
    ·intro w1 h1 hk
     have q0:=h1.cell u0;have q1:=h1.cell u1;have hg:=(Fut.drew _).trans h1
     have hcw:=fun b o => Below.cell (p:=⟨b,o,none⟩) h1
     exact exec_load_mid _ _ rfl b' (off + k * 4) rfl [.string x.f,.string x.t,.int .i8 x.k,.int .i64 x.r] _ (fun j v hj => hg.cell (hcs9.out j v hj)) Tryz.underlying129 rfl hi4
    simp only [actS]
    apply Run.call (wanted_none rfl _) (fun _ _ => by go_simp;exact ⟨rfl,rfl⟩)
    ·intro w1 h1 hk
     have q0:=h1.cell u0;have q1:=h1.cell u1;have hg:=(Fut.drew _).trans h1
     refine (HSt.out _).mono ?_;rintro e9 w9 ⟨rfl,f9⟩;exact ⟨rfl,f9⟩
    simp only [actS]
    apply Run.valG (wanted_none rfl _)
    ·intro w1 h1 hk
     go_simp;rfl
    simp only [actS]
    iterate 12
     apply Run.skip (by first | (go_simp;done) | (go_simp;exact fun h => nomatch h))
     simp only [actS]
    apply Run.valG (wanted_none rfl _)
    ·intro w1 h1 hk
     go_simp;rfl
    simp only [actS]
    apply Run.done
    intro w2 h2 hk
    clear hk
    have hF4:=Lib.hid (hF.out.trans ((Fut.drew _).trans h2))
    clear h2
    go_wp2
    go_roundw
    case rel => exact ⟨k + 1,by omega,by go_num,hF4,hA2⟩
    case measure => simp [intOf] <;> omega
   ·by_cases hr:Rch (drawP rs) x.t x.f
    ·have HC:=Lib.hid (fun W (hW:Fut wz W) => HT.out x.t x.f hr W (F2.out.trans hW))
     have hR:=Lib.hid (show RoundE rs x from ⟨hst,hr⟩)
     clear hst next hr
     go_wp2_with fail
     refine wp_graph 19 [.d,.d,.d,.d,.d,.d,.d,.d,.d,.d,.d,.d,.d,.d,.d,.d,.d,.d,.d] (by kernel_rfl) (by kernel_rfl) (by kernel_rfl) ?_
     simp only [takS,Exs]
     iterate 19 apply Exists.intro
     iterate 3
      apply Run.valG (wanted_none rfl _)
      ·intro w1 h1 hk
       go_simp;rfl
      simp only [actS]
     apply Run.valG (wanted_none rfl _)
     ·intro w1 h1 hk
      have q0:=h1.cell u0;have q1:=h1.cell u1;have hg:=(Fut.drew _).trans h1
      have hcw:=fun b o => Below.cell (p:=⟨b,o,none⟩) h1
      exact exec_load_mid _ _ rfl b' (off + k * 4) rfl [.string x.f,.string x.t,.int .i8 x.k,.int .i64 x.r] _ (fun j v hj => hg.cell (hcs9.out j v hj)) Tryz.underlying129 rfl hi4
     simp only [actS]
     apply Run.call (wanted_none rfl _) (fun _ _ => by go_simp;exact ⟨rfl,rfl⟩)
     ·intro w1 h1 hk
      have q0:=h1.cell u0;have q1:=h1.cell u1;have hg:=(Fut.drew _).trans h1
      refine (HSt.out _).mono ?_;rintro e9 w9 ⟨rfl,f9⟩;exact ⟨rfl,f9⟩
     simp only [actS]
     apply Run.valG (wanted_none rfl _)
     ·intro w1 h1 hk
      go_simp;rfl
     simp only [actS]
     iterate 5
      apply Run.valG (by go_simp)
      ·intro w1 h1 hk
       go_simp;rfl
      simp only [actS]
     apply Run.valG (by go_simp)
     ·intro w1 h1 hk
      have q0:=h1.cell u0;have q1:=h1.cell u1;have hg:=(Fut.drew _).trans h1
      have hcw:=fun b o => Below.cell (p:=⟨b,o,none⟩) h1
      go_simp;rfl
     simp only [actS]
     iterate 4
      apply Run.valG (by go_simp)
      ·intro w1 h1 hk
       go_simp;rfl
      simp only [actS]
     apply Run.valG (by go_simp)
     ·intro w1 h1 hk
      have q0:=h1.cell u0;have q1:=h1.cell u1;have hg:=(Fut.drew _).trans h1
      have hcw:=fun b o => Below.cell (p:=⟨b,o,none⟩) h1
      go_simp;rfl
     simp only [actS]
     apply Run.call (by go_simp) (fun _ _ => by go_simp;exact ⟨rfl,rfl⟩)
     ·intro w1 h1 hk
      have q0:=h1.cell u0;have q1:=h1.cell u1;have hg:=(Fut.drew _).trans h1
      refine (HC.out _ hg).mono ?_;rintro e9 w9 ⟨rfl,f9⟩;exact ⟨rfl,f9⟩
     simp only [actS]
     apply Run.valG (wanted_none rfl _)
     ·intro w1 h1 hk
      go_simp;rfl
     simp only [actS]
     apply Run.done
     intro w2 h2 hk
     clear hk
     have f2:=(Fut.drew _).trans h2
     have hF5:=Lib.hid (hF.out.trans f2)
     have hcs5:=Lib.hid (fun j v hj => f2.cell (hcs9.out j v hj))
     have hB5:=f2.block HB.out
     clear h2 f2 u0 u1 HC HSt
     go_wp2_with (first | (show wpList _ _ _ (Oper.mk _ (Op.load 129 _) _ _ _ _ :: _) _ _;refine Go.wpList_load_mid rfl _ _ rfl b' (off + k * 4) rfl [.string x.f,.string x.t,.int .i8 x.k,.int .i64 x.r] _ hcs5.out Tryz.underlying129 rfl hi4 ?_) | (show wpList _ _ _ (Oper.mk _ (Op.store 129 _ _) _ _ _ _ :: _) _ _;refine wpList_storeM [.string x.f,.string x.t,.int .i8 x.k,.int .i64 x.r] rfl _ _ _ rfl rfl rfl (cs:=[.string ⟨#[]⟩,.string ⟨#[]⟩,.int .i8 0,.int .i64 0]) hB5 (Nat.le_refl 4) hi4 (ed_one x) ?_;intro w9 hw9 hO9))
     have HB9:=Lib.hid (show w9.heap[gb]? = some (.cells #[.string x.f,.string x.t,.int .i8 x.k,.int .i64 x.r] tEdge (0,0)) from by simpa using hw9)
     have HF9:=Lib.hid (show Fut w w9 from ((Only.fut (S:=fun k => k = gb) (F0.out.trans hF5.out)).trans hO9).toFut fun k hk => by have:=Hgb.out;omega)
     clear hw9 hO9
     (try simp only [Exit.inBlock,Exit.then])
     refine bodyPost_ret (v:=.tuple #[.agg #[.string x.f,.string x.t,.int .i8 x.k,.int .i64 x.r],.bool true]) (results_cell_tmp rfl _ _ gb _ #[.string x.f,.string x.t,.int .i8 x.k,.int .i64 x.r] _ _ _ rfl rfl HB9.out Tryz.underlying129 rfl hi4) rfl ?_
     exact ⟨.inl ⟨_,x,_,hsp.out,hR.out,hA.out,rfl⟩,HF9.out⟩
    ·have HC:=Lib.hid (fun W (hW:Fut wz W) => HN.out x.t x.f hr W (F2.out.trans hW))
     have hA2:=next.out (fun h9 => hr h9.2)
     clear hst next hr
     go_wp2_with fail
     refine wp_graph 19 [.d,.d,.d,.d,.d,.d,.d,.d,.d,.d,.d,.d,.d,.d,.d,.d,.d,.d,.d] (by kernel_rfl) (by kernel_rfl) (by kernel_rfl) ?_
     simp only [takS,Exs]
     iterate 19 apply Exists.intro
     iterate 3
      apply Run.valG (wanted_none rfl _)
      ·intro w1 h1 hk
       go_simp;rfl
      simp only [actS]
     apply Run.valG (wanted_none rfl _)
     ·intro w1 h1 hk
      have q0:=h1.cell u0;have q1:=h1.cell u1;have hg:=(Fut.drew _).trans h1
      have hcw:=fun b o => Below.cell (p:=⟨b,o,none⟩) h1
      exact exec_load_mid _ _ rfl b' (off + k * 4) rfl [.string x.f,.string x.t,.int .i8 x.k,.int .i64 x.r] _ (fun j v hj => hg.cell (hcs9.out j v hj)) Tryz.underlying129 rfl hi4
     simp only [actS]
     apply Run.call (wanted_none rfl _) (fun _ _ => by go_simp;exact ⟨rfl,rfl⟩)
     ·intro w1 h1 hk
      have q0:=h1.cell u0;have q1:=h1.cell u1;have hg:=(Fut.drew _).trans h1
      refine (HSt.out _).mono ?_;rintro e9 w9 ⟨rfl,f9⟩;exact ⟨rfl,f9⟩
     simp only [actS]
     apply Run.valG (wanted_none rfl _)
     ·intro w1 h1 hk
      go_simp;rfl
     simp only [actS]
     iterate 5
      apply Run.valG (by go_simp)
      ·intro w1 h1 hk
       go_simp;rfl
      simp only [actS]
     apply Run.valG (by go_simp)
     ·intro w1 h1 hk
      have q0:=h1.cell u0;have q1:=h1.cell u1;have hg:=(Fut.drew _).trans h1
      have hcw:=fun b o => Below.cell (p:=⟨b,o,none⟩) h1
      go_simp;rfl
     simp only [actS]
     iterate 4
      apply Run.valG (by go_simp)
      ·intro w1 h1 hk
       go_simp;rfl
      simp only [actS]
     apply Run.valG (by go_simp)
     ·intro w1 h1 hk
      have q0:=h1.cell u0;have q1:=h1.cell u1;have hg:=(Fut.drew _).trans h1
      have hcw:=fun b o => Below.cell (p:=⟨b,o,none⟩) h1
      go_simp;rfl
     simp only [actS]
     apply Run.call (by go_simp) (fun _ _ => by go_simp;exact ⟨rfl,rfl⟩)
     ·intro w1 h1 hk
      have q0:=h1.cell u0;have q1:=h1.cell u1;have hg:=(Fut.drew _).trans h1
      refine (HC.out _ hg).mono ?_;rintro e9 w9 ⟨rfl,f9⟩;exact ⟨rfl,f9⟩
     simp only [actS]
     apply Run.valG (wanted_none rfl _)
     ·intro w1 h1 hk
      go_simp;rfl
     simp only [actS]
     apply Run.done
     intro w2 h2 hk
     clear hk
     have hF5:=Lib.hid (hF.out.trans ((Fut.drew _).trans h2))
     clear h2 u0 u1
     go_wp2
     go_roundw
     case rel => exact ⟨k + 1,by omega,by go_num,hF5,hA2⟩
     case measure => simp [intOf] <;> omega
  ·obtain rfl:k = es.length:=by omega
   rw [List.take_length] at hA
   have hB5:=HB.out
   go_wp2_with (first | (show wpList _ _ _ (Oper.mk _ (Op.store 129 _ _) _ _ _ _ :: _) _ _;refine wpList_storeM [.string ⟨#[]⟩,.string ⟨#[]⟩,.int .i8 0,.int .i64 0] rfl _ _ _ rfl rfl rfl (cs:=[.string ⟨#[]⟩,.string ⟨#[]⟩,.int .i8 0,.int .i64 0]) hB5 (Nat.le_refl 4) hi4 (ed_one ⟨⟨#[]⟩,⟨#[]⟩,0,0⟩) ?_;intro w9 hw9 hO9))
   have HB9:=Lib.hid (show w9.heap[gb]? = some (.cells #[.string ⟨#[]⟩,.string ⟨#[]⟩,.int .i8 0,.int .i64 0] tEdge (0,0)) from by simpa using hw9)
   have HF9:=Lib.hid (show Fut w w9 from ((Only.fut (S:=fun k => k = gb) (F0.out.trans hF.out)).trans hO9).toFut fun k hk => by have:=Hgb.out;omega)
   clear hw9 hO9
   (try simp only [Exit.inBlock,Exit.then])
   refine bodyPost_ret (v:=.tuple #[.agg #[.string ⟨#[]⟩,.string ⟨#[]⟩,.int .i8 0,.int .i64 0],.bool false]) (results_cell_tmp rfl _ _ gb _ #[.string ⟨#[]⟩,.string ⟨#[]⟩,.int .i8 0,.int .i64 0] _ _ _ rfl rfl HB9.out Tryz.underlying129 rfl hi4) rfl ?_
   exact ⟨.inr ⟨hA.out,rfl⟩,HF9.out⟩
theorem preds_sorted {rs:List Ru} {L:List ByteArray} (hU:Up cmpS L) (hm:∀ x,x ∈ L↔x ∈ rs.flatMap Ru.nN):L = (drawP rs).sorted:=by
 obtain ⟨h1,h2⟩:=sortU_spec totS (drawP rs).names
 exact Up.uniq totS hU h1 fun x => by rw [hm,← (draw_ok rs).nm];exact (h2 x).symm
def Ru.nA (r:Ru) (k:Nat):List ByteArray:=((r.b.take k).filter Lt.isA).map fun l => l.p
theorem Ru.nA_succ (r:Ru) {k:Nat} (hk:k < r.b.length):r.nA (k + 1) = r.nA k ++ (if r.b[k].isA = true then [r.b[k].p] else []):=by
 unfold Ru.nA
 rw [List.take_succ_eq_append_getElem hk,List.filter_append,List.map_append]
 by_cases h:r.b[k].isA = true <;> simp [h]
theorem Ru.nA_all (r:Ru):r.p :: r.nA r.b.length = r.nN:=by
 unfold Ru.nA Ru.nN
 rw [List.take_length]
theorem nN_take {rs:List Ru} {k:Nat} (hk:k < rs.length):(rs.take (k + 1)).flatMap Ru.nN = (rs.take k).flatMap Ru.nN ++ rs[k].nN:=by
 rw [List.take_succ_eq_append_getElem hk,List.flatMap_append]
 simp
structure PrL (L F:List ByteArray):Prop where
 up:Up cmpS L
 mem:∀ x,x ∈ L↔x ∈ F
 len:L.length ≤ 100000000
theorem prl_len {rs:List Ru} (hS:Small rs) {L:List ByteArray} (hU:Up cmpS L) (hm:∀ x ∈ L,x ∈ rs.flatMap Ru.nN):L.length ≤ 100000000:=by
 have h1:=draw_len hS
 have h2:(drawP rs).names.length = (drawP rs).length:=List.length_map _
 have h3:=nodup_le (m:=(drawP rs).names) (up9_nodup hU) fun x hx => by
  rw [(draw_ok rs).nm];exact hm x hx
 omega
theorem PrL.put {rs:List Ru} (hS:Small rs) {L L' F:List ByteArray} {s:ByteArray} (h:PrL L F) (hU:Up cmpS L') (hm:∀ x,x ∈ L'↔x ∈ L∨x = s) (hF:∀ x ∈ F ++ [s],x ∈ rs.flatMap Ru.nN):PrL L' (F ++ [s]):=by
 have hmem:∀ x,x ∈ L'↔x ∈ F ++ [s]:=fun x => by rw [hm,h.mem,List.mem_append,List.mem_singleton]
 exact ⟨hU,hmem,prl_len hS hU fun x hx => hF x ((hmem x).1 hx)⟩
theorem nN_sub {rs:List Ru} {k:Nat} (hk:k < rs.length):∀ x ∈ (rs.take k).flatMap Ru.nN ++ rs[k].nN,x ∈ rs.flatMap Ru.nN:=fun x hx => by
 rw [← nN_take hk] at hx
 obtain ⟨r,hr,h⟩:=List.mem_flatMap.1 hx
 exact List.mem_flatMap.2 ⟨r,List.mem_of_mem_take hr,h⟩
theorem nA_sub (r:Ru) (m:Nat):∀ x ∈ r.p :: r.nA m,x ∈ r.nN:=fun x hx => by
 rw [← Ru.nA_all]
 rcases List.mem_cons.1 hx with rfl | hx
 ·exact List.mem_cons_self
 ·refine List.mem_cons_of_mem _ ?_
  unfold Ru.nA at hx ⊢
  rw [List.take_length]
  obtain ⟨l,hl,rfl⟩:=List.mem_map.1 hx
  obtain ⟨h1,h2⟩:=List.mem_filter.1 hl
  exact List.mem_map.2 ⟨l,List.mem_filter.2 ⟨List.mem_of_mem_take h1,h2⟩,rfl⟩
structure PrW (w W:World) (pv u:Value) (L:List ByteArray):Prop where
 fut:Fut w W
 prog:W.heap[w.heap.size]? = some (.cells #[pv] tPr9 (0,0))
 list:Nms w.heap.size W u L
theorem PrW.later {w W w':World} {pv u:Value} {L:List ByteArray} (h:PrW w W pv u L) (hf:Fut W w'):PrW w w' pv u L :=
 ⟨h.fut.trans hf,hf.block h.prog,h.list.fut RNm.stays hf⟩
theorem PrW.next {w W w':World} {pv u v:Value} {L L':List ByteArray} (h:PrW w W pv u L) (hf:Fut W w') (ho:Nms w.heap.size w' v L'):PrW w w' pv v L' :=
 ⟨h.fut.trans hf,hf.block h.prog,ho⟩
set_option maxHeartbeats 8000000 in
set_option maxRecDepth 100000 in
theorem rpreds_any {M:Nat} (A:Option Addr) (c:Nat) (rs:List Ru) (w:World) (h:SlRep 3 M RRu w (.slice A rs.length c) rs) (hM:M ≤ 9223372036854775807) (hS:Small rs) :
    Calls Tryz.prog 29 #[.agg #[.slice A rs.length c]] w fun e w' => ∃ v,e = .returned v∧Nms w.heap.size w' v (drawP rs).sorted∧Fut w w':=by
 obtain ⟨_,_,hv,hl1,hl2⟩:=h.form
 have hxl:rs.length ≤ 9223372036854775807:=by omega
 have H:=Lib.hid h
 have HS:=Lib.hid hS
 clear h hS hl1 hl2 hv
 have hbx:=heap_alloc_new w (.cells #[.slice A rs.length c] 28)
 obtain ⟨pv,hpv⟩:∃ v,Value.slice A rs.length c = v:=⟨_,rfl⟩
 have HI:=Lib.hid (show PrW w (w.alloc (.cells #[.slice A rs.length c] 28)) pv (.slice none 0 0) [] from ⟨Fut.alloc w _,by rw [← hpv];exact hbx,OwnL.nil⟩)
 have HP0:=Lib.hid (show PrL [] ((rs.take 0).flatMap Ru.nN) from ⟨List.Pairwise.nil,fun x => by simp,by simp⟩)
 replace hpv:=Lib.hid hpv
 clear hbx
 go_enter Tryz.func29,Tryz.ntmps29
 go_wp2_with fail
 go_loopw [3,4,5] (fun u i _ wr => ∃ (k:Nat) (L:List ByteArray),k ≤ rs.length∧i = .int .i64 k∧Hid (PrW w wr pv u L)∧Hid (PrL L ((rs.take k).flatMap Ru.nN))) (fun _ i _ _ => rs.length - (intOf i).toNat)
 case atStart => exact ⟨0,[],Nat.zero_le _,rfl,HI,HP0⟩
 case round =>
  clear HI HP0
  obtain ⟨k,L,hk,rfl,hI,hL⟩:=hrel
  obtain ⟨wq,hwq⟩:∃ x,x = wr:=⟨_,rfl⟩
  subst hwq
  have y0:=cell_at hI.out.prog 0 pv rfl
  rw [← hpv.out] at y0
  by_cases hlt:k < rs.length
  ·have hltI:(k:Int) < rs.length:=by omega
   have e0:(0:Int) ≤ k∧(k:Int) < rs.length:=by omega
   obtain ⟨b',off,Ah,ch,Ab,cb,rfl,u0,u1,u2,hp,hh1,hh2⟩:=ru_at H.out hlt
   have hnx:=Lib.hid (nN_take hlt)
   have hsub:=Lib.hid (nN_sub hlt)
   have hmem:=HS.out.mem (List.getElem_mem hlt)
   generalize rs[k] = r at *
   have hbl:=hmem.2
   obtain ⟨F,hF⟩:∃ F,(rs.take k).flatMap Ru.nN = F:=⟨_,rfl⟩
   rw [hF] at hnx hsub hL
   have U0:=Lib.hid u0
   have U2:=Lib.hid u2
   have HB2:=Lib.hid hh2
   have v0:=hI.out.fut.cell u0
   obtain ⟨Au,cu,rfl,_,_⟩:=hI.out.list.rep.form
   have hPl:=hL.out.len
   have HPt:=Lib.hid (rput_any (B:=w.heap.size) r.p Au cu L wq hI.out.list hL.out.up hI.out.fut.size hPl)
   clear u0 u1 u2 hp hh1 hh2 hmem hF
   go_wp2_with fail
   refine HPt.out.mono ?_
   rintro e w9 ⟨v9,L9,rfl,hO9,hU9,hm9,hln,hf9⟩
   have HI9:=Lib.hid (hI.out.next hf9 hO9)
   have HL9:=Lib.hid (show PrL L9 (F ++ r.p :: r.nA 0) from hL.out.put HS.out hU9 hm9 fun x hx => hsub.out x (by
    rw [← Ru.nA_all]
    rcases List.mem_append.1 hx with q | q
    ·exact List.mem_append_left _ q
    ·rw [List.mem_singleton] at q;subst q;exact List.mem_append_right _ List.mem_cons_self))
   clear hO9 hU9 hm9 hln hf9 HPt hI hL hPl v0 y0
   go_wp2_with fail
   go_loopw [3,5] (fun u i W => ∃ (m:Nat) (L:List ByteArray),m ≤ r.b.length∧i = .int .i64 m∧Hid (PrW w W pv u L)∧Hid (PrL L (F ++ r.p :: r.nA m))) (fun _ i _ => r.b.length - (intOf i).toNat)
   case atStart => exact ⟨0,L9,Nat.zero_le _,rfl,HI9,HL9⟩
   case round =>
    clear HI9 HL9
    obtain ⟨m,L1,hm,rfl,hJ,hK⟩:=hrel
    obtain ⟨wz,hwz⟩:∃ x,x = wr:=⟨_,rfl⟩
    subst hwz
    have q0:=cell_at hJ.out.prog 0 pv rfl
    rw [← hpv.out] at q0
    have q2:=hJ.out.fut.cell U2.out
    by_cases hlm:m < r.b.length
    ·have hlmI:(m:Int) < r.b.length:=by omega
     have e1:(0:Int) ≤ m∧(m:Int) < r.b.length:=by omega
     obtain ⟨b2,off2,A',c2,Al,l',cl,Ad,d',cd,rfl,hcs,_,_,g3⟩:=lt_at HB2.out hlm
     have hna:=Lib.hid (Ru.nA_succ r hlm)
     generalize r.b[m] = z at *
     have hcsA:=Lib.hid (fun j v hj => hJ.out.fut.cell (hcs j v hj))
     have U1:=Lib.hid (hcs 1 (.string z.p) rfl)
     have HAt:=Lib.hid (risAtom_any z A' z.a.length c2 Al l' cl Ad d' cd wz)
     clear hcs g3
     obtain ⟨ia,hia⟩:∃ b,z.isA = b:=⟨_,rfl⟩
     rw [hia] at HAt hna
     clear hia
     cases ia
     ·go_wp2_with (first | (show wpList _ _ _ (Oper.mk _ (Op.load 120 _) _ _ _ _ :: _) _ _;refine Go.wpList_load_mid rfl _ _ rfl b2 (off2 + m * 16) rfl (z.cs (.slice A' z.a.length c2) (.slice Al l' cl) (.slice Ad d' cd)) _ hcsA.out Tryz.underlying120 rfl infoLtS ?_))
      refine HAt.out.mono ?_
      rintro e w3 ⟨rfl,f3⟩
      have HJ3:=Lib.hid (hJ.out.later f3)
      have HK3:=Lib.hid (show PrL L1 (F ++ r.p :: r.nA (m + 1)) by rw [hna.out,if_neg (by decide),List.append_nil];exact hK.out)
      clear f3
      go_wp2
      go_roundw
      case rel => exact ⟨m + 1,L1,by omega,by go_num,HJ3,HK3⟩
      case measure => simp [intOf] <;> omega
     ·rw [if_pos rfl] at hna
      go_wp2_with (first | (show wpList _ _ _ (Oper.mk _ (Op.load 120 _) _ _ _ _ :: _) _ _;refine Go.wpList_load_mid rfl _ _ rfl b2 (off2 + m * 16) rfl (z.cs (.slice A' z.a.length c2) (.slice Al l' cl) (.slice Ad d' cd)) _ hcsA.out Tryz.underlying120 rfl infoLtS ?_))
      refine HAt.out.mono ?_
      rintro e w3 ⟨rfl,f3⟩
      have HJ3:=Lib.hid (hJ.out.later f3)
      clear f3 hcsA hJ HAt q0 q2
      have q0':=cell_at HJ3.out.prog 0 pv rfl
      rw [← hpv.out] at q0'
      have q2':=HJ3.out.fut.cell U2.out
      have u1':=HJ3.out.fut.cell U1.out
      obtain ⟨Av,cv,rfl,_,_⟩:=HJ3.out.list.rep.form
      have hKl:=hK.out.len
      have HPt:=Lib.hid (rput_any (B:=w.heap.size) z.p Av cv L1 w3 HJ3.out.list hK.out.up HJ3.out.fut.size hKl)
      go_wp2_with fail
      refine HPt.out.mono ?_
      rintro e w9 ⟨v9,L9,rfl,hO9,hU9,hm9,hln,hf9⟩
      have HI9:=Lib.hid (HJ3.out.next hf9 hO9)
      have HL9:=Lib.hid (show PrL L9 (F ++ r.p :: r.nA (m + 1)) from by
       have h9:=hK.out.put (s:=z.p) HS.out hU9 hm9 fun x hx => hsub.out x (by
        rw [List.append_assoc,List.cons_append,← hna.out] at hx
        rcases List.mem_append.1 hx with q | q
        ·exact List.mem_append_left _ q
        ·exact List.mem_append_right _ (nA_sub r (m + 1) x q))
       rw [List.append_assoc,List.cons_append,← hna.out] at h9
       exact h9)
      clear hO9 hU9 hm9 hln hf9 HPt HJ3 hKl hK
      go_wp2
      go_roundw
      case rel => exact ⟨m + 1,L9,by omega,by go_num,HI9,HL9⟩
      case measure => simp [intOf] <;> omega
    ·obtain rfl:m = r.b.length:=by omega
     have HK9:=Lib.hid (show PrL L1 ((rs.take (k + 1)).flatMap Ru.nN) by rw [hnx.out,← Ru.nA_all];exact hK.out)
     clear hK
     go_wp2
     go_roundw
     case rel => exact ⟨k + 1,L1,by omega,by go_num,hJ,HK9⟩
     case measure => simp [intOf] <;> omega
  ·obtain rfl:k = rs.length:=by omega
   rw [List.take_length] at hL
   have hLs:=preds_sorted hL.out.up hL.out.mem
   subst hLs
   go_wp2
   go_ret
   exact ⟨_,rfl,hI.out.list,hI.out.fut⟩
theorem ownL_arr {α:Type} {sz B:Nat} {e:TypeId} {R:World→List Value→α→Prop} {w:World} {xs:List α} {A:Option Addr} {n c:Nat} (h:OwnL sz B e R w (.slice A n c) xs) {q:Nat} (hq:q < xs.length):∃ g arr,A = some ⟨g,0,none⟩∧n = xs.length∧w.heap[g]? = some (.cells arr e (0,0))∧q * sz + sz ≤ arr.size∧B ≤ g:=by
 obtain ⟨css,h1,h2,h3,h4⟩:=h
 rcases h4 with ⟨_,h5⟩ | ⟨g,cap,cur,hv,a2,a3,a4,a5,a6,a7⟩
 ·omega
 ·injection hv with hv1 hv2 hv3
  refine ⟨g,cur,hv1,hv2,a3,?_,a2⟩
  rw [a6]
  have:=Nat.mul_le_mul_right sz (show q + 1 ≤ cap by omega)
  rwa [Nat.add_mul,Nat.one_mul] at this
theorem lv_store {B:Nat} {w:World} {A:Option Addr} {n c:Nat} {names:List ByteArray} {ns:Nums} (h:OwnL 2 B tLev RLv w (.slice A n c) (names.map fun x => (x,lk0 ns x))) (hnd:names.Nodup) {k:Nat} {s:ByteArray} (hk:names[k]? = some s) (m:Nat) :
    ∃ g,A = some ⟨g,0,none⟩∧B ≤ g∧w.cell? ⟨g,k * 2 + 1,none⟩ = some (.int .i32 (lk0 ns s:Nat))∧w.frozen? ⟨g,k * 2 + 1,none⟩ = false∧OwnL 2 B tLev RLv (w.setCell ⟨g,k * 2 + 1,none⟩ (.int .i32 (m:Nat))) (.slice A n c) (names.map fun x => (x,lk0 (setN ns s m) x))∧Only (fun j => j = g) w (w.setCell ⟨g,k * 2 + 1,none⟩ (.int .i32 (m:Nat))):=by
 have hkl:k < names.length:=(List.getElem?_eq_some_iff.1 hk).1
 have hl:k < (names.map fun x => (x,lk0 ns x)).length:=by rw [List.length_map];exact hkl
 obtain ⟨b1,o1,hb1,z0,z1⟩:=lv9_at h.rep hl
 obtain ⟨g,arr,rfl,hn,hg,hs,hB⟩:=ownL_arr h hl
 injection hb1 with hb1
 injection hb1 with e1 e2 _
 subst e1;subst e2
 have hgs:names[k] = s:=(List.getElem?_eq_some_iff.1 hk).2
 rw [List.getElem_map,hgs] at z0 z1
 simp only [Nat.zero_add] at z0 z1
 have y0:arr[k * 2]? = some (.string s):=by
  have h9:=z0
  simp only [World.cell?,hg] at h9
  simpa using h9
 refine ⟨g,rfl,hB,z1,free_at hg _,?_,Only.set _ _ rfl⟩
 rw [← lv_set hnd hk ns m]
 refine h.write hg (set_blk hg) hl (cs:=[.string s,.int .i32 (m:Nat)]) (fun j => ?_) rfl rfl (fun _ _ h => h)
 rw [Array.getElem?_setIfInBounds]
 by_cases h1:k * 2 + 1 = j
 ·subst h1
  rw [if_pos rfl,if_pos (by omega),if_pos (by omega)]
  rw [show k * 2 + 1 - k * 2 = 1 by omega]
  rfl
 ·rw [if_neg h1]
  by_cases h2:j = k * 2
  ·subst h2
   rw [if_pos (by omega),Nat.sub_self,y0]
   rfl
  ·rw [if_neg (by omega)]
theorem raise_noRound {rs:List Ru} (hS:Small rs) (hno:∀ y ∈ edgesP rs,¬ RoundE rs y):∃ f nf,raiseR (edgesP rs) f [] = some nf∧LeastL (edgesP rs) (lk0 nf):=by
 obtain ⟨T,h1,h2⟩:=tarj_rules hS
 have hb:blameE T.inn (edgesP rs) = none:=by
  unfold blameE
  rw [List.find?_eq_none]
  intro e he h9
  exact hno e he ((round_iff h2 he).1 h9)
 obtain ⟨f,nf,a,b,c⟩:=levels_rules hS h2 hb
 exact ⟨f,nf,a,b,c⟩
def LvRnd (es:List Ed) (names:List ByteArray) (nf:Nums) (B:Nat) (lv:Value) (W:World) (f:Nat):Prop :=
 ∃ n,OwnL 2 B tLev RLv W lv (names.map fun x => (x,lk0 n x))∧OkN n 100000000∧raiseR es f n = some nf
noncomputable def LvMu (es:List Ed) (names:List ByteArray) (nf:Nums) (B:Nat) (lv ag:Value) (W:World):Nat :=
 match ag with
 | .bool true => leastF (LvRnd es names nf B lv W) + 1
 | _ => 0
theorem LvMu.lt {es:List Ed} {names:List ByteArray} {nf:Nums} {B f:Nat} {lv:Value} {W:World} (h:LvRnd es names nf B lv W f):LvMu es names nf B lv (.bool true) W < f + 2:=by
 have:=(leastF_spec (p:=LvRnd es names nf B lv W) h).2 f h
 show leastF _ + 1 < f + 2
 omega
theorem OkN.raise {es:List Ed} {n nf:Nums} {B f:Nat} (h:OkN n B) (hr:raiseR es f n = some nf):OkN n 100000000:=by
 obtain ⟨_,_,h1,_⟩:=raise_ok hr
 exact ⟨h.nm,h1⟩
set_option maxHeartbeats 8000000 in
set_option maxRecDepth 100000 in
theorem rlevels_any {M:Nat} (A:Option Addr) (c:Nat) (rs:List Ru) (w:World) (h:SlRep 3 M RRu w (.slice A rs.length c) rs) (hM:M ≤ 9223372036854775807) (hS:Small rs) :
    Calls Tryz.prog 17 #[.agg #[.slice A rs.length c]] w fun e w' => ∃ lv n ee l,e = .returned (.tuple #[lv,.int .i64 n,.int .i64 ee])∧OwnL 2 w.heap.size tLev RLv w' lv l∧LvAns rs l n ee∧Fut w w':=by
 have HE:=Lib.hid (fun W (hW:Fut w W) => redges_any A c rs W (h.fut RRu.stays hW) hM hS)
 have HN:=Lib.hid (fun W (hW:Fut w W) => rpreds_any A c rs W (h.fut RRu.stays hW) hM hS)
 have HOk:=Lib.hid (edgeP_ok h)
 have HS:=Lib.hid hS
 have F0:=Lib.hid (Fut.alloc w (.cells #[.slice A rs.length c] 28))
 have hbx:=heap_alloc_new w (.cells #[.slice A rs.length c] 28)
 have c0:=cell_at hbx 0 (.slice A rs.length c) rfl
 obtain ⟨wa,hwa⟩:∃ W,w.alloc (.cells #[.slice A rs.length c] 28) = W:=⟨_,rfl⟩
 rw [hwa] at F0 c0
 clear h hS hbx
 go_enter Tryz.func17,Tryz.ntmps17
 go_wp2_with fail
 try rw [hwa]
 clear hwa
 have hel:=HS.out.edges
 obtain ⟨es,hes⟩:∃ es,edgesP rs = es:=⟨_,rfl⟩
 simp only [hes] at hel HOk HE
 have hnu:=Lib.hid (sortU_spec totS (drawP rs).names)
 have hnl:(drawP rs).sorted.length ≤ 100000000:=by
  have h1:=draw_len HS.out
  have h2:=gsorted_len (drawP rs)
  have h3:(drawP rs).names.length = (drawP rs).length:=List.length_map _
  omega
 obtain ⟨names,hnm⟩:∃ l,(drawP rs).sorted = l:=⟨_,rfl⟩
 have hnu2:Up cmpS names∧∀ x,x ∈ names↔x ∈ (drawP rs).names:=hnm ▸ hnu.out
 have HNd:=Lib.hid (up9_nodup hnu2.1)
 have HNe:=Lib.hid (show ∀ e ∈ es,(∃ q,names[q]? = some e.f)∧∃ q,names[q]? = some e.t from fun e he => by
  have h9:=edge_names (hes ▸ he)
  exact ⟨List.getElem?_of_mem ((hnu2.2 _).2 h9.1),List.getElem?_of_mem ((hnu2.2 _).2 h9.2)⟩)
 simp only [hnm] at HN hnl
 have Hnm:=Lib.hid hnm
 have Hes:=Lib.hid hes
 clear hnu hnu2 hnm
 refine wp_graph 4 [.d,.r (fun v W => OwnL 4 w.heap.size tEdge REd W v es),.d,.r (fun v W => Nms w.heap.size W v names)] (by kernel_rfl) (by kernel_rfl) (by kernel_rfl) ?_
 simp only [takS,Exs]
 iterate 2 apply Exists.intro
 apply Run.valG (wanted_none rfl _)
 ·intro w1 h1 hk
  have q0:=h1.cell c0;have hg:=F0.out.trans ((Fut.drew _).trans h1)
  have hcw:=fun b o => Below.cell (p:=⟨b,o,none⟩) h1
  go_simp;rfl
 simp only [actS]
 apply Run.callR (wanted_none rfl _) (by intro v w w' hf hs;exact hs.fut REd.stays hf) (fun _ _ => by go_simp;exact ⟨rfl,rfl⟩)
 ·intro w1 h1 hk
  have q0:=h1.cell c0;have hg:=F0.out.trans ((Fut.drew _).trans h1)
  refine (HE.out _ hg).mono ?_;rintro e9 w9 ⟨v9,rfl,ho,hf⟩;exact ⟨_,rfl,hf,ho.base hg.size⟩
 intro v1
 simp only [actS]
 apply Run.valG (wanted_none rfl _)
 ·intro w1 h1 hk
  have q0:=h1.cell c0;have hg:=F0.out.trans ((Fut.drew _).trans h1)
  have hcw:=fun b o => Below.cell (p:=⟨b,o,none⟩) h1
  go_simp;rfl
 simp only [actS]
 apply Run.callR (wanted_none rfl _) (by intro v w w' hf hs;exact hs.fut RNm.stays hf) (fun _ _ => by go_simp;exact ⟨rfl,rfl⟩)
 ·intro w1 h1 hk
  have f1:=Facts.get hk 0 rfl (by kernel_rfl)
  have q0:=h1.cell c0;have hg:=F0.out.trans ((Fut.drew _).trans h1)
  refine (HN.out _ hg).mono ?_;rintro e9 w9 ⟨v9,rfl,ho,hf⟩;exact ⟨_,rfl,hf,ho.base hg.size⟩
 intro v3
 simp only [actS]
 apply Run.done
 intro wN hN hk
 obtain ⟨f1,f3,_⟩:=hk
 have F2:=Lib.hid (F0.out.trans ((Fut.drew _).trans hN))
 have HOe:=Lib.hid f1
 have HON:=Lib.hid f3
 obtain ⟨A1,k1,rfl,_,_⟩:=f1.rep.form
 obtain ⟨A2,k2,rfl,_,_⟩:=HON.out.rep.form
 have HB:=Lib.hid (rblame_any A1 k1 rs es wN hes HOe.out.rep (by decide) hel)
 clear hes f1 f3 hN HE HN c0
 go_wp2_with fail
 refine HB.out.mono ?_
 rintro e wB ⟨hres,g3⟩
 have F3:=Lib.hid (F2.out.trans g3)
 have HOe:=Lib.hid (HOe.out.fut REd.stays g3)
 have HON:=Lib.hid (HON.out.fut RNm.stays g3)
 clear g3 HB
 rcases hres with ⟨a,x,b,hsp,hx,ha,rfl⟩ | ⟨hno,rfl⟩
 ·have HAns:=Lib.hid (show LvAns rs [] x.r x.errno from .inl ⟨a,x,b,by rw [Hes.out];exact hsp,hx,ha,rfl,rfl,rfl⟩)
  have hxe:x.errno = if x.k = 2 then 90 else if x.k = 3 then 91 else 92:=rfl
  have hkd:=kind_ofW (by rw [Hes.out,hsp];simp:x ∈ edgesP rs) hx.1
  clear hsp hx ha
  rcases hkd with hk | hk | hk
  ·rw [hk] at hxe ⊢
   have hxe2:x.errno = 90:=hxe
   rw [hxe2] at HAns
   clear hxe hxe2 hk
   have hb9:=heap_alloc_new wB (.cells #[.string x.f,.string x.t,.int .i8 2,.int .i64 x.r] tEdge)
   have Fb:=Lib.hid (Fut.alloc wB (.cells #[.string x.f,.string x.t,.int .i8 2,.int .i64 x.r] tEdge))
   have b2:=cell_at hb9 2 (.int .i8 2) rfl
   have b3:=cell_at hb9 3 (.int .i64 x.r) rfl
   clear hb9
   go_wp2_with fail
   refine wp_graph 5 [.d,.d,.d,.d,.d] (by kernel_rfl) (by kernel_rfl) (by kernel_rfl) ?_
   simp only [takS,Exs]
   iterate 5 apply Exists.intro
   apply Run.valG (wanted_none rfl _)
   ·intro w1 h1 hk
    go_simp;rfl
   simp only [actS]
   apply Run.valG (wanted_none rfl _)
   ·intro w1 h1 hk
    have q3:=h1.cell b3
    have hcw:=fun b o => Below.cell (p:=⟨b,o,none⟩) h1
    go_simp;rfl
   simp only [actS]
   iterate 3
    apply Run.valG (wanted_none rfl _)
    ·intro w1 h1 hk
     go_simp;rfl
    simp only [actS]
   apply Run.done
   intro w2 h2 hk
   clear hk
   have Fe:=Lib.hid (F3.out.trans (Fb.out.trans ((Fut.drew _).trans h2)))
   clear h2 b2 b3
   go_wp2
   (try simp only [Exit.inBlock,Exit.then])
   refine bodyPost_ret (v:=.tuple #[.slice none 0 0,.int .i64 x.r,.int .i64 90]) (by simp [results,Tryz.results17,go_sem]) rfl ?_
   exact ⟨_,_,_,[],rfl,OwnL.nil,HAns.out,Fe.out⟩
  ·rw [hk] at hxe ⊢
   have hxe2:x.errno = 91:=hxe
   rw [hxe2] at HAns
   clear hxe hxe2 hk
   have hb9:=heap_alloc_new wB (.cells #[.string x.f,.string x.t,.int .i8 3,.int .i64 x.r] tEdge)
   have Fb:=Lib.hid (Fut.alloc wB (.cells #[.string x.f,.string x.t,.int .i8 3,.int .i64 x.r] tEdge))
   have b2:=cell_at hb9 2 (.int .i8 3) rfl
   have b3:=cell_at hb9 3 (.int .i64 x.r) rfl
   clear hb9
   go_wp2_with fail
   refine wp_graph 5 [.d,.d,.d,.d,.d] (by kernel_rfl) (by kernel_rfl) (by kernel_rfl) ?_
   simp only [takS,Exs]
   iterate 5 apply Exists.intro
   apply Run.valG (wanted_none rfl _)
   ·intro w1 h1 hk
    go_simp;rfl
   simp only [actS]
   apply Run.valG (wanted_none rfl _)
   ·intro w1 h1 hk
    have q3:=h1.cell b3
    have hcw:=fun b o => Below.cell (p:=⟨b,o,none⟩) h1
    go_simp;rfl
   simp only [actS]
   iterate 3
    apply Run.valG (wanted_none rfl _)
    ·intro w1 h1 hk
     go_simp;rfl
    simp only [actS]
   apply Run.done
   intro w2 h2 hk
   clear hk
   have Fe:=Lib.hid (F3.out.trans (Fb.out.trans ((Fut.drew _).trans h2)))
   clear h2 b2 b3
   go_wp2
   (try simp only [Exit.inBlock,Exit.then])
   refine bodyPost_ret (v:=.tuple #[.slice none 0 0,.int .i64 x.r,.int .i64 91]) (by simp [results,Tryz.results17,go_sem]) rfl ?_
   exact ⟨_,_,_,[],rfl,OwnL.nil,HAns.out,Fe.out⟩
  ·rw [hk] at hxe ⊢
   have hxe2:x.errno = 92:=hxe
   rw [hxe2] at HAns
   clear hxe hxe2 hk
   have hb9:=heap_alloc_new wB (.cells #[.string x.f,.string x.t,.int .i8 4,.int .i64 x.r] tEdge)
   have Fb:=Lib.hid (Fut.alloc wB (.cells #[.string x.f,.string x.t,.int .i8 4,.int .i64 x.r] tEdge))
   have b2:=cell_at hb9 2 (.int .i8 4) rfl
   have b3:=cell_at hb9 3 (.int .i64 x.r) rfl
   clear hb9
   go_wp2_with fail
   refine wp_graph 5 [.d,.d,.d,.d,.d] (by kernel_rfl) (by kernel_rfl) (by kernel_rfl) ?_
   simp only [takS,Exs]
   iterate 5 apply Exists.intro
   apply Run.valG (wanted_none rfl _)
   ·intro w1 h1 hk
    go_simp;rfl
   simp only [actS]
   apply Run.valG (wanted_none rfl _)
   ·intro w1 h1 hk
    have q3:=h1.cell b3
    have hcw:=fun b o => Below.cell (p:=⟨b,o,none⟩) h1
    go_simp;rfl
   simp only [actS]
   iterate 3
    apply Run.valG (wanted_none rfl _)
    ·intro w1 h1 hk
     go_simp;rfl
    simp only [actS]
   apply Run.done
   intro w2 h2 hk
   clear hk
   have Fe:=Lib.hid (F3.out.trans (Fb.out.trans ((Fut.drew _).trans h2)))
   clear h2 b2 b3
   go_wp2
   (try simp only [Exit.inBlock,Exit.then])
   refine bodyPost_ret (v:=.tuple #[.slice none 0 0,.int .i64 x.r,.int .i64 92]) (by simp [results,Tryz.results17,go_sem]) rfl ?_
   exact ⟨_,_,_,[],rfl,OwnL.nil,HAns.out,Fe.out⟩
 ·obtain ⟨f9,nf,hraise,hleast⟩:=raise_noRound HS.out (by rw [Hes.out];exact hno)
  rw [Hes.out] at hraise
  have HAns:=Lib.hid (show LvAns rs (names.map fun s => (s,lk0 nf s)) 0 0 from .inr ⟨fun y hy => hno y (by rw [← Hes.out];exact hy),lk0 nf,hleast,by rw [Hnm.out],rfl,rfl⟩)
  have HR0:=Lib.hid hraise
  have hnl9:names.length ≤ 9223372036854775807:=by omega
  have hel9:es.length ≤ 9223372036854775807:=by omega
  clear hno hleast hraise
  go_wp2_with fail
  go_loopw [9,10] (fun u i W => ∃ k:Nat,k ≤ names.length∧i = .int .i64 k∧Hid (OwnL 2 wB.heap.size tLev RLv W u ((names.take k).map fun x => (x,lk0 [] x)))∧Hid (Fut wB W)) (fun _ i _ => names.length - (intOf i).toNat)
  case atStart => exact ⟨0,Nat.zero_le _,rfl,Lib.hid OwnL.nil,Lib.hid (Fut.alloc _ _)⟩
  case round =>
   obtain ⟨k,hk,rfl,hI,hF⟩:=hrel
   obtain ⟨wq,hwq⟩:∃ x,x = wr:=⟨_,rfl⟩
   subst hwq
   by_cases hlt:k < names.length
   ·have hltI:(k:Int) < names.length:=by omega
    have e0:(0:Int) ≤ k∧(k:Int) < names.length:=by omega
    obtain ⟨b',off,rfl,z0⟩:=nm_at (HON.out.fut RNm.stays hF.out).rep hlt
    have hnx:=Lib.hid (show (names.take (k + 1)).map (fun s => (s,lk0 [] s)) = (names.take k).map (fun s => (s,lk0 [] s)) ++ [(names[k],0)] by rw [List.take_succ_eq_append_getElem hlt,List.map_append];rfl)
    generalize names[k] = t at *
    have hB9:wB.heap.size ≤ wq.heap.size:=hF.out.size
    have hl8:((names.take k).map (fun s => (s,lk0 [] s))).length ≤ 100000000:=by rw [List.length_map,List.length_take];omega
    have hIo:=hI.out
    generalize ((names.take k).map (fun s => (s,lk0 [] s))) = L9 at *
    obtain ⟨Ao,co,rfl,_,_⟩:=hIo.rep.form
    replace hIo:=Lib.hid hIo
    clear hI
    go_wp2_with (first | (at_builtin;refine wpList_append_LB (R:=RLv) (B:=wB.heap.size) (M:=1) (xs:=L9) (ys:=[(t,0)]) (e:=tLev) (by go_simp) _ _ 68 rfl Tryz.underlying68 (.agg #[.string ⟨#[]⟩,.int .i32 0]) 24 infoLv rfl (by decide) RLv.one RLv.keeps rfl rfl (hIo.out.fut RLv.stays (Fut.alloc _ _)) (lvOne _ t 0 _) ?l3 ?l4 ?b3 ?k3))
    case l3 => simp [maxLen];omega
    case l4 => simp;omega
    case b3 => simp;omega
    case k3 =>
    intro v' w' o' g' sn'
    have HI2:=Lib.hid (by rw [← hnx.out] at o';exact o')
    have HF2:=Lib.hid ((hF.out.trans (Fut.alloc _ _)).grown g' fun k hk => (hIo.out.block k hk).1)
    clear o' g' sn' z0
    go_wp2
    go_roundw
    case rel => exact ⟨k + 1,by omega,by go_num,HI2,HF2⟩
    case measure => simp [intOf] <;> omega
   ·obtain rfl:k = names.length:=by omega
    rw [List.take_length] at hI
    obtain ⟨Al,cl,rfl,_,_⟩:=hI.out.rep.form
    rw [List.length_map] at hI
    rw [List.length_map]
    have hRn:LvRnd es names nf wB.heap.size (.slice Al names.length cl) wq f9:=⟨[],hI.out,⟨fun x hx => (by cases hx),fun x hx => (by cases hx)⟩,HR0.out⟩
    have HRn:=Lib.hid (show ∃ f,LvRnd es names nf wB.heap.size (.slice Al names.length cl) wq f from ⟨f9,hRn⟩)
    clear hRn hI HR0
    go_wp2_with fail
    go_loopw [11,12,13,14,15] (fun ag _ _ _ _ W => (∃ b,ag = .bool b∧Hid (b = true→∃ f,LvRnd es names nf wB.heap.size (.slice Al names.length cl) W f)∧Hid (b = false→OwnL 2 wB.heap.size tLev RLv W (.slice Al names.length cl) (names.map fun s => (s,lk0 nf s))))∧Hid (Fut wB W)) (fun ag _ _ _ _ W => LvMu es names nf wB.heap.size (.slice Al names.length cl) ag W)
    case atStart => exact ⟨⟨true,rfl,Lib.hid (fun _ => HRn.out),Lib.hid (fun h => by cases h)⟩,hF⟩
    case round =>
     clear HRn
     obtain ⟨⟨b,rfl,hT,hFl⟩,hF2⟩:=hrel
     obtain ⟨wy,hwy⟩:∃ x,x = wr:=⟨_,rfl⟩
     subst hwy
     cases b
     ·have HFin:=Lib.hid (hFl.out rfl)
      clear hT hFl
      go_wp2
      (try simp only [Exit.inBlock,Exit.then])
      refine bodyPost_ret (v:=.tuple #[.slice Al names.length cl,.int .i64 0,.int .i64 0]) (by simp [results,Tryz.results17,go_sem]) rfl ?_
      exact ⟨_,_,_,_,rfl,HFin.out.base F3.out.size,HAns.out,F3.out.trans hF2.out⟩
     ·have hmu:=leastF_spec (p:=LvRnd es names nf wB.heap.size (.slice Al names.length cl) wy) (hT.out rfl).choose_spec
      have hmuE:LvMu es names nf wB.heap.size (.slice Al names.length cl) (.bool true) wy = leastF (LvRnd es names nf wB.heap.size (.slice Al names.length cl) wy) + 1:=rfl
      have HmuE:=Lib.hid hmuE
      clear hmuE
      generalize leastF (LvRnd es names nf wB.heap.size (.slice Al names.length cl) wy) = mm at *
      obtain ⟨⟨n,hOn,hOkn,hrn⟩,-⟩:=hmu
      obtain ⟨m',rfl,hb8,hr1,hr2⟩:=raise_ok hrn
      have HR1:=Lib.hid hr1
      have HR2:=Lib.hid hr2
      have HOn:=Lib.hid hOn
      have HOkn:=Lib.hid hOkn
      clear hT hFl hOn hOkn hrn hr1 hr2 hb8
      go_wp2_with fail
      go_loopw [11,12,13,14,15] (fun r i _ _ _ W => ∃ (k:Nat) (st:Nums × Bool),k ≤ es.length∧i = .int .i64 k∧r = .bool st.2∧Hid ((es.take k).foldl stepR (n,false) = st)∧Hid (Fut wB W)∧Hid (OwnL 2 wB.heap.size tLev RLv W (.slice Al names.length cl) (names.map fun s => (s,lk0 st.1 s)))) (fun _ i _ _ _ _ => es.length - (intOf i).toNat)
      case atStart => exact ⟨0,(n,false),Nat.zero_le _,rfl,rfl,Lib.hid rfl,hF2,HOn⟩
      case round =>
       clear HOn hF2
       obtain ⟨k,⟨n1,r1⟩,hk,rfl,rfl,hSt,hF4,hO4⟩:=hrel
       obtain ⟨wz,hwz⟩:∃ x,x = wr:=⟨_,rfl⟩
       subst hwz
       dsimp only at *
       have hok:=hSt.out ▸ OkN.fold (es.take k) (s:=(n,false)) HOkn.out (fun e he => (HOk.out e (List.mem_of_mem_take he)).1)
       rw [List.length_take] at hok
       have HOk1:=Lib.hid hok
       clear hok
       by_cases hlt:k < es.length
       ·have hltI:(k:Int) < es.length:=by omega
        have e0:(0:Int) ≤ k∧(k:Int) < es.length:=by omega
        obtain ⟨b',off,rfl,hcs⟩:=ed_at (HOe.out.fut REd.stays hF4.out).rep hlt
        have hsn:=Lib.hid (show (es.take (k + 1)).foldl stepR (n,false) = stepR (n1,r1) es[k] by rw [List.take_succ_eq_append_getElem hlt,List.foldl_append,hSt.out];rfl)
        obtain ⟨⟨qf,hqf⟩,⟨qt,hqt⟩⟩:=HNe.out _ (List.getElem_mem hlt)
        obtain ⟨y,hyk⟩:∃ y,es[k] = y:=⟨_,rfl⟩
        rw [hyk] at hcs hsn hqf hqt
        have HAf:=Lib.hid (fun W (hW:Fut wB W) => rat9_any y.f A2 k2 names W (HON.out.fut RNm.stays hW).rep (by decide) HNd.out qf hqf)
        have HAt:=Lib.hid (fun W (hW:Fut wB W) => rat9_any y.t A2 k2 names W (HON.out.fut RNm.stays hW).rep (by decide) HNd.out qt hqt)
        have hqfl:qf < names.length:=(List.getElem?_eq_some_iff.1 hqf).1
        have hqtl:qt < names.length:=(List.getElem?_eq_some_iff.1 hqt).1
        have hqfI:(qf:Int) < names.length:=by omega
        have hqtI:(qt:Int) < names.length:=by omega
        have e1:(0:Int) ≤ qf∧(qf:Int) < names.length:=by omega
        have e2:(0:Int) ≤ qt∧(qt:Int) < names.length:=by omega
        have u0:=hcs 0 _ rfl
        have u1:wz.cell? ⟨b',off + k * 4 + 1,none⟩ = some (.string y.t):=hcs 1 _ rfl
        rw [Nat.add_zero] at u0
        have hcs9:=Lib.hid hcs
        have HSt:=Lib.hid (fun W => rstrict_any y W)
        have hi4:=infoEdS9
        have p9:=lk0_le HOk1.out.le y.f
        have q9:=lk0_le HOk1.out.le y.t
        clear hyk hSt hcs
        go_wp2_with fail
        refine wp_graph 16 [.d,.d,.d,.d,.d,.d,.d,.d,.d,.d,.d,.d,.d,.d,.d,.d] (by kernel_rfl) (by kernel_rfl) (by kernel_rfl) ?_
        simp only [takS,Exs]
        iterate 16 apply Exists.intro
        iterate 5
         apply Run.valG (wanted_none rfl _)
         ·intro w1 h1 hk
          go_simp;rfl
         simp only [actS]
        apply Run.valG (wanted_none rfl _)
        ·intro w1 h1 hk
         have q0:=h1.cell u0;have q1:=h1.cell u1;have hg:=hF4.out.trans ((Fut.drew _).trans h1)
         have hcw:=fun b o => Below.cell (p:=⟨b,o,none⟩) h1
         go_simp;rfl
        simp only [actS]
        apply Run.call (wanted_none rfl _) (fun _ _ => by go_simp;exact ⟨rfl,rfl⟩)
        ·intro w1 h1 hk
         have q0:=h1.cell u0;have q1:=h1.cell u1;have hg:=hF4.out.trans ((Fut.drew _).trans h1)
         refine (HAf.out _ hg).mono ?_;rintro e9 w9 ⟨rfl,rfl⟩;exact ⟨rfl,Fut.refl _⟩
        simp only [actS]
        iterate 5
         apply Run.valG (wanted_none rfl _)
         ·intro w1 h1 hk
          go_simp;rfl
         simp only [actS]
        apply Run.valG (wanted_none rfl _)
        ·intro w1 h1 hk
         have q0:=h1.cell u0;have q1:=h1.cell u1;have hg:=hF4.out.trans ((Fut.drew _).trans h1)
         have hcw:=fun b o => Below.cell (p:=⟨b,o,none⟩) h1
         go_simp;rfl
        simp only [actS]
        apply Run.call (wanted_none rfl _) (fun _ _ => by go_simp;exact ⟨rfl,rfl⟩)
        ·intro w1 h1 hk
         have q0:=h1.cell u0;have q1:=h1.cell u1;have hg:=hF4.out.trans ((Fut.drew _).trans h1)
         refine (HAt.out _ hg).mono ?_;rintro e9 w9 ⟨rfl,rfl⟩;exact ⟨rfl,Fut.refl _⟩
        simp only [actS]
        iterate 2
         apply Run.valG (wanted_none rfl _)
         ·intro w1 h1 hk
          go_simp;rfl
         simp only [actS]
        apply Run.done
        intro wS hS9 hk
        clear hk
        have f9:=(Fut.drew _).trans hS9
        have HF5:=Lib.hid (hF4.out.trans f9)
        have HO5:=Lib.hid (hO4.out.fut RLv.stays f9)
        have hcs5:=Lib.hid (fun j v hj => f9.cell (hcs9.out j v hj))
        obtain ⟨g,hAl,hgB,_⟩:=lv_store HO5.out HNd.out hqf 0
        subst hAl
        obtain ⟨g',hAl',_,z1,_⟩:=lv_store HO5.out HNd.out hqt 0
        injection hAl' with hAl'
        injection hAl' with hAl' _ _
        subst hAl'
        clear f9 hS9 u0 u1 HAf HAt hO4 hF4
        go_wp2_with (first | (show wpList _ _ _ (Oper.mk _ (Op.load 129 _) _ _ _ _ :: _) _ _;refine Go.wpList_load_mid rfl _ _ rfl b' (off + k * 4) rfl [.string y.f,.string y.t,.int .i8 y.k,.int .i64 y.r] _ hcs5.out Tryz.underlying129 rfl hi4 ?_))
        refine (HSt.out _).mono ?_
        rintro e w6 ⟨rfl,f6⟩
        have HF6:=Lib.hid (HF5.out.trans f6)
        have HO6:=Lib.hid (HO5.out.fut RLv.stays f6)
        obtain ⟨g',hAl',_,y1,y2,hO7,hS7⟩:=lv_store HO6.out HNd.out hqf (y.wants n1)
        injection hAl' with hAl'
        injection hAl' with hAl' _ _
        subst hAl'
        have HO7:=Lib.hid hO7
        have HF7:=Lib.hid (show Fut wB (w6.setCell ⟨g,qf * 2 + 1,none⟩ (.int .i32 (y.wants n1:Nat))) from ((Only.fut (S:=fun j => j = g) HF6.out).trans hS7).toFut fun j hj => by omega)
        clear HO5 HF5 hcs5 f6 HSt z1 hO7 hS7
        unfold stepR at hsn
        dsimp only at hsn
        have hwt:y.wants n1 = if y.strict = true then lk0 n1 y.t + 1 else lk0 n1 y.t:=rfl
        have hys:y.strict = !decide (y.k = 1):=rfl
        generalize y.wants n1 = wt at *
        generalize lk0 n1 y.f = pf at *
        generalize lk0 n1 y.t = pt at *
        by_cases e1:y.k = 1
        ·rw [decide_eq_true e1] at hys ⊢
         rw [hys,if_neg (by decide)] at hwt
         subst hwt
         clear hys
         by_cases e4:pf < wt
         ·rw [if_pos e4] at hsn
          have e5:(pf:Int) < (wt:Int):=by omega
          have HSn:=Lib.hid hsn.out
          clear hsn
          go_wp2
          go_roundw
          case rel => exact ⟨k + 1,(_,true),by omega,by go_num,rfl,HSn,HF7,HO7⟩
          case measure => simp [intOf] <;> omega
         ·rw [if_neg e4] at hsn
          have e5:¬ (pf:Int) < (wt:Int):=by omega
          have HSn:=Lib.hid hsn.out
          clear hsn y2 HO7 HF7
          go_wp2
          go_roundw
          case rel => exact ⟨k + 1,(n1,r1),by omega,by go_num,rfl,HSn,HF6,HO6⟩
          case measure => simp [intOf] <;> omega
        ·rw [decide_eq_false e1] at hys ⊢
         rw [hys,if_pos (show (!false) = true from rfl)] at hwt
         have ew:IntKind.i32.wrap ((pt:Int) + 1) = (pt:Int) + 1:=by
          unfold IntKind.wrap;simp [IntKind.bits,IntKind.signed];omega
         have hwtI:((wt:Nat):Int) = (pt:Int) + 1:=by omega
         simp only [hwtI] at HF7 HO7
         subst hwt
         clear hys hwtI
         by_cases e4:pf < pt + 1
         ·rw [if_pos e4] at hsn
          have e5:(pf:Int) < (pt:Int) + 1:=by omega
          have e6:(pf:Int) ≤ (pt:Int):=by omega
          have e7:pf ≤ pt:=by omega
          have HSn:=Lib.hid hsn.out
          clear hsn
          go_wp2
          go_roundw
          case rel => exact ⟨k + 1,(_,true),by omega,by go_num,rfl,HSn,HF7,HO7⟩
          case measure => simp [intOf] <;> omega
         ·rw [if_neg e4] at hsn
          have e5:¬ (pf:Int) < (pt:Int) + 1:=by omega
          have e6:¬ (pf:Int) ≤ (pt:Int):=by omega
          have e7:¬ pf ≤ pt:=by omega
          have HSn:=Lib.hid hsn.out
          clear hsn y2 HO7 HF7
          go_wp2
          go_roundw
          case rel => exact ⟨k + 1,(n1,r1),by omega,by go_num,rfl,HSn,HF6,HO6⟩
          case measure => simp [intOf] <;> omega
       ·obtain rfl:k = es.length:=by omega
        rw [List.take_length] at hSt
        have hrr:roundR es n = (n1,r1):=hSt.out
        have hx1:=HR1.out
        have hx2:=HR2.out
        rw [hrr] at hx1 hx2
        dsimp only at hx1 hx2
        have HO5:=Lib.hid hO4.out
        have HF5:=Lib.hid hF4.out
        clear hSt hrr HR1 HR2 hO4 hF4
        cases r1
        ·obtain rfl:nf = n1:=(hx2 rfl).symm
         clear hx1 hx2
         go_wp2
         go_roundw
         case rel => exact ⟨⟨false,rfl,Lib.hid (fun h => by cases h),Lib.hid (fun _ => HO5.out)⟩,HF5⟩
         case measure => show LvMu es names nf wB.heap.size (.slice Al names.length cl) (.bool false) wz < LvMu es names nf wB.heap.size (.slice Al names.length cl) (.bool true) wy;rw [HmuE.out];exact Nat.succ_pos _
        ·have hR9:LvRnd es names nf wB.heap.size (.slice Al names.length cl) wz m':=⟨n1,HO5.out,HOk1.out.raise (hx1 rfl),hx1 rfl⟩
         have HR9:=Lib.hid hR9
         clear hx1 hx2 hR9
         go_wp2
         go_roundw
         case rel => exact ⟨⟨true,rfl,Lib.hid (fun _ => ⟨_,HR9.out⟩),Lib.hid (fun h => by cases h)⟩,HF5⟩
         case measure => show LvMu es names nf wB.heap.size (.slice Al names.length cl) (.bool true) wz < LvMu es names nf wB.heap.size (.slice Al names.length cl) (.bool true) wy;rw [HmuE.out];exact LvMu.lt HR9.out
end Go.Proofs.YtobabnpllokkaaaGreatDoor
