/- Parts. -/
import Derived.Test.YtobabnpllokkaaaGreatDoorM04
set_option linter.unusedSimpArgs false
set_option linter.unusedVariables false
namespace Go.Proofs.YtobabnpllokkaaaGreatDoor
open Go.RowKit
theorem TwEx.mono:∀ {n m:Nat} (_:n ≤ m) {g:Nat} {w:World} {cs:List Value} {x:Ex},TwEx n g w cs x→TwEx m g w cs x
 | 0,_,_,_,_,_,_,h => h.elim
 | n + 1,m,hm,g,w,cs,.mk op t kids,h => by
  obtain ⟨m',rfl⟩:∃ m',m = m' + 1:=⟨m - 1,by omega⟩
  obtain ⟨kv,h1,g',css,a1,a2,a3,a4,a5,a6⟩:=h
  exact ⟨kv,h1,g',css,a1,a2,a3,a4,fun i x cs hx hc => ⟨(a5 i x cs hx hc).1,TwEx.mono (by omega) (a5 i x cs hx hc).2⟩,a6⟩
theorem TwTm.only {S:Nat→Prop} {B:Nat} {w w':World} {v:Value} {xs:List Tm} (h:TwTm B w v xs) (hO:Only S w w') (hS:∀ k,B ≤ k→¬ S k):TwTm B w' v xs:=TwinE.only h hO hS (fun _ _ _ _ h => h) fun _ h => h
section
variable {w:World} {b o:Nat} {t:TypeId} {cs vs:List Value}
theorem blk_mid (h:w.heap[b]? = some (.cells cs.toArray t (0,0))) (hl:o + vs.length ≤ cs.length) :
    w.there b o vs.length∧(w.setCells b o vs).heap[b]? = some (.cells (cs.take o ++ vs ++ cs.drop (o + vs.length)).toArray t (0,0))∧Only (fun k => k = b) w (w.setCells b o vs):=by
 obtain ⟨arr',e1,e2,e3⟩:=setCells_put vs o w cs.toArray h
 have hlt:=(Array.getElem?_eq_some_iff.1 h).1
 refine ⟨fun j hj => ⟨?_,?_⟩,?_,?_⟩
 ·simp [World.cell?,h];omega
 ·simp [World.frozen?,h]
 ·have ha:arr' = (cs.take o ++ vs ++ cs.drop (o + vs.length)).toArray:=by
    refine Array.ext_getElem? fun j => ?_
    rw [e3]
    simp only [List.getElem?_toArray,List.size_toArray]
    by_cases h1:j < o
    ·rw [if_neg (by omega),List.append_assoc,List.getElem?_append_left (by rw [List.length_take];omega),List.getElem?_take,if_pos h1]
    ·have hlen:(cs.take o).length = o:=by rw [List.length_take];omega
     by_cases h2:j < o + vs.length
     ·rw [if_pos (by omega),List.append_assoc,List.getElem?_append_right (by omega),hlen,List.getElem?_append_left (by omega)]
     ·rw [if_neg (by omega),List.getElem?_append_right (by rw [List.length_append];omega),List.length_append,hlen,List.getElem?_drop,show o + vs.length + (j - (o + vs.length)) = j by omega]
  rw [e1,ha]
  simp [World.putObj,hlt]
 ·rw [e1]
  exact Only.put b _ rfl
variable {P:Program} {ops:Array Oper} {rest:List Oper} {op:Oper} {a:Act} {Q:Exit→Act→World→Prop}
theorem wpList_storeM (vs:List Value) (hgd:op.guard = none) (ty:TypeId) (x y:Operand) (ho:op.op = .store ty x y) (hx:a.eval x = .pointer (some ⟨b,o,none⟩)) (hy:a.eval y = .agg vs.toArray) (hb:w.heap[b]? = some (.cells cs.toArray t (0,0))) (hl:o + vs.length ≤ cs.length)
    (hi:(P.info? ty).map (·.size) = some vs.length) (h1:∀ v ∈ vs,v.oneCell' = true)
    (h:∀ w',w'.heap[b]? = some (.cells (cs.take o ++ vs ++ cs.drop (o + vs.length)).toArray t (0,0))→Only (fun k => k = b) w w'→wpList P ops Q rest (a.put op.dst undef) w'):wpList P ops Q (op :: rest) a w:=by
 obtain ⟨a1,a2,a3⟩:=blk_mid hb hl
 have hsz2:vs.toArray.size = vs.length:=by simp
 exact wpList_store_mid hgd ty x y ho b o vs.toArray hx hy (by rw [hsz2];exact a1) (by rw [hsz2];exact hi) (all_oneCell_toArray h1) (h _ a2 a3)
theorem range_mid (h:w.heap[b]? = some (.cells cs.toArray t (0,0))) (o n:Nat):w.rangeAt b o ((cs.drop o).take n):=fun j v hj => by
 rw [List.getElem?_take] at hj
 split at hj
 ·rw [List.getElem?_drop] at hj
  exact cell_at h (o + j) v (by simpa using hj)
 ·cases hj
end
theorem BlkF.onlyT {S:Nat→Prop} {w w':World} {g N:Nat} {t:TypeId} {f:Nat→Value} (h:BlkF w g t N f) (hO:Only S w w') (hS:¬ S g):BlkF w' g t N f:=by
 obtain ⟨arr,h1,h2⟩:=h
 exact ⟨arr,hO.keeps h1 hS,h2⟩
def zAt:List Value:=[.string ⟨#[]⟩,.slice none 0 0]
theorem infoAtN:(Tryz.prog.info? 108).map (·.size) = some 2:=by kernel_rfl
theorem infoTms1:(Tryz.prog.info? 106).map (·.size) = some 1:=by kernel_rfl
set_option maxHeartbeats 2000000 in
theorem twinAtom_any {M:Nat} (p:ByteArray) (ts:List Tm) (A:Option Addr) (c:Nat) (w:World) (hP:Pows w) (hk:SlRep 4 M RTm w (.slice A ts.length c) ts) (hs:ts.length ≤ 100000000) :
    Calls Tryz.prog 257 #[.agg #[.string p,.slice A ts.length c]] w fun e w' => ∃ g,e = .returned (.agg #[.string p,.slice (some ⟨g,0,none⟩) ts.length (ts.length + 1)])∧TwTm w.heap.size w' (.slice (some ⟨g,0,none⟩) ts.length (ts.length + 1)) ts∧Fut w w':=by
 have hbx:=heap_alloc_new w (.cells #[.string p,.slice A ts.length c] 108)
 have f0:=Fut.alloc w (.cells #[.string p,.slice A ts.length c] 108)
 have hs1:(w.alloc (.cells #[.string p,.slice A ts.length c] 108)).heap.size = w.heap.size + 1:=by simp
 have hz:=blk_zero (w.alloc (.cells #[.string p,.slice A ts.length c] 108)) zAt 108 (by decide)
 have f1:=Fut.alloc (w.alloc (.cells #[.string p,.slice A ts.length c] 108)) (.cells zAt.toArray 108)
 rw [hs1] at hz
 have f01:=f0.trans f1
 have hbx1:=f1.block hbx
 have c1:=cell_at hbx1 1 _ rfl
 have HK:=Lib.hid (twinTm_any A c ts _ (hP.fut f01) (hk.fut RTm.stays f01) hs)
 have F01:=Lib.hid f01
 have HBX:=Lib.hid hbx1
 have HZ:=Lib.hid hz
 clear f0 f1 f01 hbx hbx1 hz hs1 hk hP hs
 go_enter Tryz.func257,Tryz.ntmps257
 go_wp2_with fail
 refine HK.out.mono ?_
 rintro e w2 ⟨v,rfl,ht,f2⟩
 obtain ⟨g,hg,rfl,_⟩:=TwinE.mark ht rfl (by decide)
 have hzz:((w.alloc (.cells #[.string p,.slice A ts.length c] 108)).alloc (.cells zAt.toArray 108)).heap.size = w.heap.size + 2:=by simp
 have hb2:=f2.block HBX.out
 have d1:=cell_at hb2 1 _ rfl
 have e1:=free_at hb2 1
 have hz2:=HZ.out.fut f2
 obtain ⟨w3,hw3⟩:∃ W,w2.setCell ⟨w.heap.size,1,none⟩ (.slice (some ⟨g,0,none⟩) ts.length (ts.length + 1)) = W:=⟨_,rfl⟩
 have hb3:w3.heap[w.heap.size]? = some (.cells #[.string p,.slice (some ⟨g,0,none⟩) ts.length (ts.length + 1)] 108 (0,0)):=by rw [← hw3];simp [World.setCell,Array.getElem?_modify,hb2]
 have hz3:=hz2.far (p:=⟨w.heap.size,1,none⟩) (by simp) (.slice (some ⟨g,0,none⟩) ts.length (ts.length + 1))
 have O3:Only (fun k => k = w.heap.size) w2 w3:=by rw [← hw3];exact Only.set _ _ rfl
 rw [hw3] at hz3
 have hrg:=Lib.hid (block_range (cs:=[.string p,.slice (some ⟨g,0,none⟩) ts.length (ts.length + 1)]) hb3)
 have HZ3:=Lib.hid hz3
 have hw3':=Lib.hid hw3
 have HO3:=Lib.hid (And.intro (Only.fut (S:=fun k => w.heap.size ≤ k∧k < w.heap.size + 2) (F01.out.trans f2)) (O3.mono (S':=fun k => w.heap.size ≤ k∧k < w.heap.size + 2) fun k _ e => by omega))
 have HT:=Lib.hid (TwTm.only (B:=w.heap.size + 2) (by rw [← hzz];exact ht) O3 (fun k hk e => by omega))
 have hi3:=infoAtN
 have hi1:=infoTms1
 have hone:∀ v ∈ ([.string p,.slice (some ⟨g,0,none⟩) ts.length (ts.length + 1)]:List Value),v.oneCell' = true:=fun v hv => by
  simp only [List.mem_cons,List.not_mem_nil,or_false] at hv
  rcases hv with (rfl|rfl) <;> rfl
 clear hw3 hz3 hz2 hb3 hb2 O3 ht f2 hg c1 HK hzz
 go_wp2_with (first | (show wpList _ _ _ (Oper.mk _ (Op.store 106 _ _) _ _ _ _ :: _) _ _;refine wpList_store_1 (wanted_none rfl _) _ _ rfl rfl rfl hi1 rfl d1 e1 hw3'.out ?_) | (show wpList _ _ _ (Oper.mk _ (Op.load 108 _) _ _ _ _ :: _) _ _;refine wpList_load_mid rfl _ _ rfl w.heap.size 0 rfl [.string p,.slice (some ⟨g,0,none⟩) ts.length (ts.length + 1)] _ hrg.out Tryz.underlying108 rfl hi3 ?_) | (show wpList _ _ _ (Oper.mk _ (Op.store 108 _ _) _ _ _ _ :: _) _ _;refine wpList_storeK [.string p,.slice (some ⟨g,0,none⟩) ts.length (ts.length + 1)] rfl _ _ _ rfl rfl rfl HZ3.out (fun c hc => (by cases hc)) rfl (by decide) rfl (by decide) hi3 hone ?_;intro w4 hB4 hO4))
 have hb4:=blk_one hB4 rfl
 have OW:Fut w w4:=((HO3.out.1.trans HO3.out.2).trans (hO4.mono (S':=fun k => w.heap.size ≤ k∧k < w.heap.size + 2) fun k _ e => by omega)).toFut fun k hk => hk.1
 refine bodyPost_ret (v:=.agg #[.string p,.slice (some ⟨g,0,none⟩) ts.length (ts.length + 1)]) (results_cell_row rfl _ _ (w.heap.size + 1) _ #[.string p,.slice (some ⟨g,0,none⟩) ts.length (ts.length + 1)] _ _ rfl hb4 Tryz.underlying108 rfl hi3) rfl ?_
 exact ⟨g,rfl,(HT.out.only hO4 (fun k hk e => by omega)).base (by omega),OW⟩
def zLt:List Value:=[.int .i8 0,.string ⟨#[]⟩,.slice none 0 0,.int .i8 0,.int .i8 0,.string ⟨#[]⟩,.int .i8 0,.int .i64 0,.string ⟨#[]⟩,.slice none 0 0,.int .i8 0,.string ⟨#[]⟩,.int .i8 0,.int .i64 0,.string ⟨#[]⟩,.slice none 0 0]
def mkLt:List Value:=[.int .i8 99,.string wordS,.slice none 0 0,.int .i8 0,.int .i8 0,.string ⟨#[]⟩,.int .i8 0,.int .i64 0,.string ⟨#[]⟩,.slice none 0 0,.int .i8 0,.string ⟨#[]⟩,.int .i8 0,.int .i64 0,.string ⟨#[]⟩,.slice none 0 0]
theorem infoLt16:(Tryz.prog.info? 120).map (fun i => (i.zero,i.size,i.bytes)) = some (some (.agg zLt.toArray),16,216):=by kernel_rfl
theorem infoLtN:(Tryz.prog.info? 120).map (·.size) = some 16:=by kernel_rfl
def TwLt (g:Nat) (w:World) (cs:List Value) (x:Lt):Prop:=∃ av cl cd h1 h2,cs = .int .i8 x.k :: .string x.p :: av :: .int .i8 x.r :: (cl ++ cd)∧TwTm g w av x.a∧TwEx h1 g w cl x.l∧TwEx h2 g w cd x.d
theorem TwLt.only {S:Nat→Prop} {g:Nat} {w w':World} {cs:List Value} {x:Lt} (h:TwLt g w cs x) (hO:Only S w w') (hS:∀ k,g ≤ k→¬ S k):TwLt g w' cs x:=by
 obtain ⟨av,cl,cd,h1,h2,e,a,b,c⟩:=h
 exact ⟨av,cl,cd,h1,h2,e,a.only hO hS,b.only h1 hO hS,c.only h2 hO hS⟩
theorem TwLt.keep {g:Nat} {w w':World} {cs:List Value} {x:Lt} (h:TwLt g w cs x) (hf:Fut w w'):TwLt g w' cs x:=h.only (S:=fun _ => False) (Only.fut hf) fun _ _ h => h
theorem TwLt.base {g g':Nat} {w:World} {cs:List Value} {x:Lt} (h:TwLt g w cs x) (hg:g' ≤ g):TwLt g' w cs x:=by
 obtain ⟨av,cl,cd,h1,h2,e,a,b,c⟩:=h
 exact ⟨av,cl,cd,h1,h2,e,TwinE.base a hg,TwEx.base h1 b hg,TwEx.base h2 c hg⟩
def Lt.fits (x:Lt):Prop:=x.a.length ≤ 100000000∧x.l.size ≤ 100000000∧x.d.size ≤ 100000000
set_option maxHeartbeats 4000000 in
set_option maxRecDepth 100000 in
theorem twinLt_any (x:Lt) (cs:List Value) (w:World) (hP:Pows w) (hx:RLt w cs x) (hs:x.fits) :
    Calls Tryz.prog 204 #[.agg cs.toArray] w fun e w' => ∃ cs',e = .returned (.agg cs'.toArray)∧cs'.length = 16∧(∀ v ∈ cs',v.oneCell' = true)∧TwLt w.heap.size w' cs' x∧Fut w w':=by
 obtain ⟨k,p,a,r,l,d⟩:=x
 obtain ⟨av,cl,cd,rfl,_,_,_,_,_,ha,⟨n1,h1⟩,⟨n2,h2⟩⟩:=hx
 obtain ⟨s1,s2,s3⟩:=hs
 dsimp only at *
 obtain ⟨A,c,rfl,_,_⟩:=ha.form
 have H1:=h1
 have H2:=h2
 obtain ⟨m1,op1,⟨tv1,⟨xk1,xn1,xs1⟩⟩,ks1,A1,c1,rfl,rfl,rfl,_,_,_⟩:=ex_form h1
 obtain ⟨m2,op2,⟨tv2,⟨xk2,xn2,xs2⟩⟩,ks2,A2,c2,rfl,rfl,rfl,_,_,_⟩:=ex_form h2
 dsimp only at *
 show Calls Tryz.prog 204 #[.agg #[.int .i8 k,.string p,.slice A a.length c,.int .i8 r,.int .i8 op1,.string tv1,.int .i8 xk1,.int .i64 xn1,.string xs1,.slice A1 ks1.length c1,.int .i8 op2,.string tv2,.int .i8 xk2,.int .i64 xn2,.string xs2,.slice A2 ks2.length c2]] w _
 have hbx:=heap_alloc_new w (.cells #[.int .i8 k,.string p,.slice A a.length c,.int .i8 r,.int .i8 op1,.string tv1,.int .i8 xk1,.int .i64 xn1,.string xs1,.slice A1 ks1.length c1,.int .i8 op2,.string tv2,.int .i8 xk2,.int .i64 xn2,.string xs2,.slice A2 ks2.length c2] 120)
 have f0:=Fut.alloc w (.cells #[.int .i8 k,.string p,.slice A a.length c,.int .i8 r,.int .i8 op1,.string tv1,.int .i8 xk1,.int .i64 xn1,.string xs1,.slice A1 ks1.length c1,.int .i8 op2,.string tv2,.int .i8 xk2,.int .i64 xn2,.string xs2,.slice A2 ks2.length c2] 120)
 have hs1:(w.alloc (.cells #[.int .i8 k,.string p,.slice A a.length c,.int .i8 r,.int .i8 op1,.string tv1,.int .i8 xk1,.int .i64 xn1,.string xs1,.slice A1 ks1.length c1,.int .i8 op2,.string tv2,.int .i8 xk2,.int .i64 xn2,.string xs2,.slice A2 ks2.length c2] 120)).heap.size = w.heap.size + 1:=by simp
 have hz:=blk_zero (w.alloc (.cells #[.int .i8 k,.string p,.slice A a.length c,.int .i8 r,.int .i8 op1,.string tv1,.int .i8 xk1,.int .i64 xn1,.string xs1,.slice A1 ks1.length c1,.int .i8 op2,.string tv2,.int .i8 xk2,.int .i64 xn2,.string xs2,.slice A2 ks2.length c2] 120)) [.int .i8 0,.string ⟨#[]⟩,.slice none 0 0,.int .i8 0,.int .i8 0,.string ⟨#[]⟩,.int .i8 0,.int .i64 0,.string ⟨#[]⟩,.slice none 0 0,.int .i8 0,.string ⟨#[]⟩,.int .i8 0,.int .i64 0,.string ⟨#[]⟩,.slice none 0 0] 120 (by decide)
 have f1:=Fut.alloc (w.alloc (.cells #[.int .i8 k,.string p,.slice A a.length c,.int .i8 r,.int .i8 op1,.string tv1,.int .i8 xk1,.int .i64 xn1,.string xs1,.slice A1 ks1.length c1,.int .i8 op2,.string tv2,.int .i8 xk2,.int .i64 xn2,.string xs2,.slice A2 ks2.length c2] 120)) (.cells #[.int .i8 0,.string ⟨#[]⟩,.slice none 0 0,.int .i8 0,.int .i8 0,.string ⟨#[]⟩,.int .i8 0,.int .i64 0,.string ⟨#[]⟩,.slice none 0 0,.int .i8 0,.string ⟨#[]⟩,.int .i8 0,.int .i64 0,.string ⟨#[]⟩,.slice none 0 0] 120)
 rw [hs1] at hz
 have hbx1:=f1.block hbx
 have f01:=f0.trans f1
 have hz2:((w.alloc (.cells #[.int .i8 k,.string p,.slice A a.length c,.int .i8 r,.int .i8 op1,.string tv1,.int .i8 xk1,.int .i64 xn1,.string xs1,.slice A1 ks1.length c1,.int .i8 op2,.string tv2,.int .i8 xk2,.int .i64 xn2,.string xs2,.slice A2 ks2.length c2] 120)).alloc (.cells #[.int .i8 0,.string ⟨#[]⟩,.slice none 0 0,.int .i8 0,.int .i8 0,.string ⟨#[]⟩,.int .i8 0,.int .i64 0,.string ⟨#[]⟩,.slice none 0 0,.int .i8 0,.string ⟨#[]⟩,.int .i8 0,.int .i64 0,.string ⟨#[]⟩,.slice none 0 0] 120)).heap.size = w.heap.size + 2:=by simp
 obtain ⟨wB,hwB⟩:∃ W,(w.alloc (.cells #[.int .i8 k,.string p,.slice A a.length c,.int .i8 r,.int .i8 op1,.string tv1,.int .i8 xk1,.int .i64 xn1,.string xs1,.slice A1 ks1.length c1,.int .i8 op2,.string tv2,.int .i8 xk2,.int .i64 xn2,.string xs2,.slice A2 ks2.length c2] 120)).alloc (.cells #[.int .i8 0,.string ⟨#[]⟩,.slice none 0 0,.int .i8 0,.int .i8 0,.string ⟨#[]⟩,.int .i8 0,.int .i64 0,.string ⟨#[]⟩,.slice none 0 0,.int .i8 0,.string ⟨#[]⟩,.int .i8 0,.int .i64 0,.string ⟨#[]⟩,.slice none 0 0] 120) = W:=⟨_,rfl⟩
 rw [hwB] at hz hbx1 f01 hz2
 have F01:=Lib.hid f01
 have HBX:=Lib.hid hbx1
 have HZ:=Lib.hid hz
 have hi1:=infoAtN
 have hi2:=infoExN
 have hi3:=infoLtN
 have HA:=Lib.hid (fun W (hW:Fut w W) => twinAtom_any p a A c W (hP.fut hW) (ha.fut RTm.stays hW) s1)
 have HE1:=Lib.hid (fun W (hW:Fut w W) => twinExpr_any _ _ W (hP.fut hW) _ (RE.stays _ _ _ _ _ hW H1) s2)
 have HE2:=Lib.hid (fun W (hW:Fut w W) => twinExpr_any _ _ W (hP.fut hW) _ (RE.stays _ _ _ _ _ hW H2) s3)
 have hl1:=Lib.hid (show wB.rangeAt w.heap.size 1 [.string p,.slice A a.length c] from range_mid (cs:=[.int .i8 k,.string p,.slice A a.length c,.int .i8 r,.int .i8 op1,.string tv1,.int .i8 xk1,.int .i64 xn1,.string xs1,.slice A1 ks1.length c1,.int .i8 op2,.string tv2,.int .i8 xk2,.int .i64 xn2,.string xs2,.slice A2 ks2.length c2]) hbx1 1 2)
 have hwB':=Lib.hid hwB
 have hzB:=Lib.hid hz2
 clear f0 f1 f01 hbx hbx1 hz hs1 ha h1 h2 H1 H2 hP hwB hz2
 go_enter Tryz.func204,Tryz.ntmps204
 go_wp2_with (first | (show wpList _ _ _ (Oper.mk _ (Op.load 108 _) _ _ _ _ :: _) _ _;refine wpList_load_mid rfl _ _ rfl w.heap.size 1 rfl [.string p,.slice A a.length c] _ (hwB'.out ▸ hl1.out) Tryz.underlying108 rfl hi1 ?_))
 rw [hwB'.out]
 refine (HA.out _ F01.out).mono ?_
 rintro e w2 ⟨ga,rfl,hta,f2⟩
 have hb2:=f2.block HBX.out
 have HZ2:=Lib.hid (HZ.out.fut f2)
 have F2:=Lib.hid (F01.out.trans f2)
 have HTa:=Lib.hid (by rw [hzB.out] at hta;exact hta)
 have hz2:w.heap.size + 2 ≤ w2.heap.size:=by have:=f2.size;have:=hzB.out;omega
 have hb2':=Lib.hid hb2
 have hoA:∀ v ∈ ([.string p,.slice (some ⟨ga,0,none⟩) a.length (a.length + 1)]:List Value),v.oneCell' = true:=fun v hv => by
  simp only [List.mem_cons,List.not_mem_nil,or_false] at hv
  rcases hv with (rfl|rfl) <;> rfl
 clear hta f2 hb2 hl1 HA
 go_wp2_with (first | (show wpList _ _ _ (Oper.mk _ (Op.store 108 _ _) _ _ _ _ :: _) _ _;refine wpList_storeM (cs:=[.int .i8 k,.string p,.slice A a.length c,.int .i8 r,.int .i8 op1,.string tv1,.int .i8 xk1,.int .i64 xn1,.string xs1,.slice A1 ks1.length c1,.int .i8 op2,.string tv2,.int .i8 xk2,.int .i64 xn2,.string xs2,.slice A2 ks2.length c2]) [.string p,.slice (some ⟨ga,0,none⟩) a.length (a.length + 1)] rfl _ _ _ rfl rfl rfl hb2'.out (by simp) hi1 hoA ?_;intro w3 hb3 hO3;have hl2:=Lib.hid (show w3.rangeAt w.heap.size 4 [.int .i8 op1,.string tv1,.int .i8 xk1,.int .i64 xn1,.string xs1,.slice A1 ks1.length c1] from range_mid (cs:=[.int .i8 k,.string p,.slice (some ⟨ga,0,none⟩) a.length (a.length + 1),.int .i8 r,.int .i8 op1,.string tv1,.int .i8 xk1,.int .i64 xn1,.string xs1,.slice A1 ks1.length c1,.int .i8 op2,.string tv2,.int .i8 xk2,.int .i64 xn2,.string xs2,.slice A2 ks2.length c2]) hb3 4 6)) | (show wpList _ _ _ (Oper.mk _ (Op.load 118 _) _ _ _ _ :: _) _ _;refine wpList_load_mid rfl _ _ rfl w.heap.size 4 rfl [.int .i8 op1,.string tv1,.int .i8 xk1,.int .i64 xn1,.string xs1,.slice A1 ks1.length c1] _ hl2.out Tryz.underlying118 rfl hi2 ?_))
 have hb3':w3.heap[w.heap.size]? = some (.cells #[.int .i8 k,.string p,.slice (some ⟨ga,0,none⟩) a.length (a.length + 1),.int .i8 r,.int .i8 op1,.string tv1,.int .i8 xk1,.int .i64 xn1,.string xs1,.slice A1 ks1.length c1,.int .i8 op2,.string tv2,.int .i8 xk2,.int .i64 xn2,.string xs2,.slice A2 ks2.length c2] 120 (0,0)):=hb3
 have F3:Fut w w3:=((Only.fut (S:=fun k => k = w.heap.size) F2.out).trans hO3).toFut fun k hk => by omega
 have HZ3:=Lib.hid (HZ2.out.onlyT hO3 (by omega))
 have HTa3:=Lib.hid (TwTm.only HTa.out hO3 (fun k hk e => by omega))
 have hz3:w.heap.size + 2 ≤ w3.heap.size:=Nat.le_trans hz2 hO3.size
 refine (HE1.out _ F3).mono ?_
 rintro e w4 ⟨cs1,rfl,_,hone1,ht1,f4⟩
 have HT1:=Lib.hid (TwEx.base _ ht1 hz3)
 obtain ⟨kv1,rfl,htk1⟩:=ht1
 obtain ⟨g1,_,rfl,_⟩:=TwinE.mark htk1 rfl (by decide)
 dsimp only at hone1
 have hb4:=Lib.hid (f4.block hb3')
 have HZ4:=Lib.hid (HZ3.out.fut f4)
 have HTa4:=Lib.hid (TwinE.fut (fun _ _ _ _ _ _ h => h) (fun _ _ _ _ h => h) HTa3.out f4)
 have F4:=Lib.hid (F3.trans f4)
 have hz4:w.heap.size + 2 ≤ w4.heap.size:=Nat.le_trans hz3 f4.size
 clear hb3 hb3' hO3 F3 HZ3 HTa3 HZ2 HTa F2 htk1 f4 HE1 hl2 hb2' hz2 hz3
 go_wp2_with (first | (show wpList _ _ _ (Oper.mk _ (Op.store 118 _ _) _ _ _ _ :: _) _ _;refine wpList_storeM (cs:=[.int .i8 k,.string p,.slice (some ⟨ga,0,none⟩) a.length (a.length + 1),.int .i8 r,.int .i8 op1,.string tv1,.int .i8 xk1,.int .i64 xn1,.string xs1,.slice A1 ks1.length c1,.int .i8 op2,.string tv2,.int .i8 xk2,.int .i64 xn2,.string xs2,.slice A2 ks2.length c2]) [.int .i8 op1,.string tv1,.int .i8 xk1,.int .i64 xn1,.string xs1,.slice (some ⟨g1,0,none⟩) ks1.length (ks1.length + 1)] rfl _ _ _ rfl rfl rfl hb4.out (by simp) hi2 hone1 ?_;intro w5 hb5 hO5;have hl3:=Lib.hid (show w5.rangeAt w.heap.size 10 [.int .i8 op2,.string tv2,.int .i8 xk2,.int .i64 xn2,.string xs2,.slice A2 ks2.length c2] from range_mid (cs:=[.int .i8 k,.string p,.slice (some ⟨ga,0,none⟩) a.length (a.length + 1),.int .i8 r,.int .i8 op1,.string tv1,.int .i8 xk1,.int .i64 xn1,.string xs1,.slice (some ⟨g1,0,none⟩) ks1.length (ks1.length + 1),.int .i8 op2,.string tv2,.int .i8 xk2,.int .i64 xn2,.string xs2,.slice A2 ks2.length c2]) hb5 10 6)) | (show wpList _ _ _ (Oper.mk _ (Op.load 118 _) _ _ _ _ :: _) _ _;refine wpList_load_mid rfl _ _ rfl w.heap.size 10 rfl [.int .i8 op2,.string tv2,.int .i8 xk2,.int .i64 xn2,.string xs2,.slice A2 ks2.length c2] _ hl3.out Tryz.underlying118 rfl hi2 ?_))
 have hb5':w5.heap[w.heap.size]? = some (.cells #[.int .i8 k,.string p,.slice (some ⟨ga,0,none⟩) a.length (a.length + 1),.int .i8 r,.int .i8 op1,.string tv1,.int .i8 xk1,.int .i64 xn1,.string xs1,.slice (some ⟨g1,0,none⟩) ks1.length (ks1.length + 1),.int .i8 op2,.string tv2,.int .i8 xk2,.int .i64 xn2,.string xs2,.slice A2 ks2.length c2] 120 (0,0)):=hb5
 have F5:Fut w w5:=((Only.fut (S:=fun k => k = w.heap.size) F4.out).trans hO5).toFut fun k hk => by omega
 have HZ5:=Lib.hid (HZ4.out.onlyT hO5 (by omega))
 have HTa5:=Lib.hid (TwTm.only HTa4.out hO5 (fun k hk e => by omega))
 have HT15:=Lib.hid (HT1.out.only _ hO5 (fun k hk e => by omega))
 have hz5:w.heap.size + 2 ≤ w5.heap.size:=Nat.le_trans hz4 hO5.size
 refine (HE2.out _ F5).mono ?_
 rintro e w6 ⟨cs2,rfl,_,hone2,ht2,f6⟩
 have HT2:=Lib.hid (TwEx.base _ ht2 hz5)
 obtain ⟨kv2,rfl,htk2⟩:=ht2
 obtain ⟨g2,_,rfl,_⟩:=TwinE.mark htk2 rfl (by decide)
 dsimp only at hone2
 have hb6:=Lib.hid (f6.block hb5')
 have HZ6:=Lib.hid (HZ5.out.fut f6)
 have HTa6:=Lib.hid (TwinE.fut (fun _ _ _ _ _ _ h => h) (fun _ _ _ _ h => h) HTa5.out f6)
 have HT16:=Lib.hid (HT15.out.keep f6)
 have F6:=Lib.hid (F5.trans f6)
 have hz6:w.heap.size + 2 ≤ w6.heap.size:=Nat.le_trans hz5 f6.size
 clear hb5 hb5' hO5 F5 HZ5 HTa5 HT15 HZ4 HTa4 HT1 F4 htk2 f6 HE2 hl3 hb4 hz4 hz5
 have hone:∀ v ∈ ([.int .i8 k,.string p,.slice (some ⟨ga,0,none⟩) a.length (a.length + 1),.int .i8 r,.int .i8 op1,.string tv1,.int .i8 xk1,.int .i64 xn1,.string xs1,.slice (some ⟨g1,0,none⟩) ks1.length (ks1.length + 1),.int .i8 op2,.string tv2,.int .i8 xk2,.int .i64 xn2,.string xs2,.slice (some ⟨g2,0,none⟩) ks2.length (ks2.length + 1)]:List Value),v.oneCell' = true:=fun v hv => by
  simp only [List.mem_cons,List.not_mem_nil,or_false] at hv
  rcases hv with (rfl|rfl|rfl|rfl|rfl|rfl|rfl|rfl|rfl|rfl|rfl|rfl|rfl|rfl|rfl|rfl) <;> rfl
 go_wp2_with (first | (show wpList _ _ _ (Oper.mk _ (Op.store 118 _ _) _ _ _ _ :: _) _ _;refine wpList_storeM (cs:=[.int .i8 k,.string p,.slice (some ⟨ga,0,none⟩) a.length (a.length + 1),.int .i8 r,.int .i8 op1,.string tv1,.int .i8 xk1,.int .i64 xn1,.string xs1,.slice (some ⟨g1,0,none⟩) ks1.length (ks1.length + 1),.int .i8 op2,.string tv2,.int .i8 xk2,.int .i64 xn2,.string xs2,.slice A2 ks2.length c2]) [.int .i8 op2,.string tv2,.int .i8 xk2,.int .i64 xn2,.string xs2,.slice (some ⟨g2,0,none⟩) ks2.length (ks2.length + 1)] rfl _ _ _ rfl rfl rfl hb6.out (by simp) hi2 hone2 ?_;intro w7 hb7 hO7;have hl4:=Lib.hid (show w7.rangeAt w.heap.size 0 [.int .i8 k,.string p,.slice (some ⟨ga,0,none⟩) a.length (a.length + 1),.int .i8 r,.int .i8 op1,.string tv1,.int .i8 xk1,.int .i64 xn1,.string xs1,.slice (some ⟨g1,0,none⟩) ks1.length (ks1.length + 1),.int .i8 op2,.string tv2,.int .i8 xk2,.int .i64 xn2,.string xs2,.slice (some ⟨g2,0,none⟩) ks2.length (ks2.length + 1)] from block_range (cs:=[.int .i8 k,.string p,.slice (some ⟨ga,0,none⟩) a.length (a.length + 1),.int .i8 r,.int .i8 op1,.string tv1,.int .i8 xk1,.int .i64 xn1,.string xs1,.slice (some ⟨g1,0,none⟩) ks1.length (ks1.length + 1),.int .i8 op2,.string tv2,.int .i8 xk2,.int .i64 xn2,.string xs2,.slice (some ⟨g2,0,none⟩) ks2.length (ks2.length + 1)]) hb7);have HZ7:=Lib.hid (HZ6.out.onlyT hO7 (by omega))) | (show wpList _ _ _ (Oper.mk _ (Op.load 120 _) _ _ _ _ :: _) _ _;refine wpList_load_mid rfl _ _ rfl w.heap.size 0 rfl [.int .i8 k,.string p,.slice (some ⟨ga,0,none⟩) a.length (a.length + 1),.int .i8 r,.int .i8 op1,.string tv1,.int .i8 xk1,.int .i64 xn1,.string xs1,.slice (some ⟨g1,0,none⟩) ks1.length (ks1.length + 1),.int .i8 op2,.string tv2,.int .i8 xk2,.int .i64 xn2,.string xs2,.slice (some ⟨g2,0,none⟩) ks2.length (ks2.length + 1)] _ hl4.out Tryz.underlying120 rfl hi3 ?_) | (show wpList _ _ _ (Oper.mk _ (Op.store 120 _ _) _ _ _ _ :: _) _ _;refine wpList_storeK [.int .i8 k,.string p,.slice (some ⟨ga,0,none⟩) a.length (a.length + 1),.int .i8 r,.int .i8 op1,.string tv1,.int .i8 xk1,.int .i64 xn1,.string xs1,.slice (some ⟨g1,0,none⟩) ks1.length (ks1.length + 1),.int .i8 op2,.string tv2,.int .i8 xk2,.int .i64 xn2,.string xs2,.slice (some ⟨g2,0,none⟩) ks2.length (ks2.length + 1)] rfl _ _ _ rfl rfl rfl HZ7.out (fun c hc => (by cases hc)) rfl (by decide) rfl (by decide) hi3 hone ?_;intro w8 hB8 hO8))
 have hb8:=blk_one hB8 rfl
 have OW:Fut w w8:=(((Only.fut (S:=fun k => w.heap.size ≤ k∧k < w.heap.size + 2) F6.out).trans (hO7.mono (S':=fun k => w.heap.size ≤ k∧k < w.heap.size + 2) fun k _ e => by omega)).trans (hO8.mono (S':=fun k => w.heap.size ≤ k∧k < w.heap.size + 2) fun k _ e => by omega)).toFut fun k hk => hk.1
 have HTL:TwLt (w.heap.size + 2) w8 [.int .i8 k,.string p,.slice (some ⟨ga,0,none⟩) a.length (a.length + 1),.int .i8 r,.int .i8 op1,.string tv1,.int .i8 xk1,.int .i64 xn1,.string xs1,.slice (some ⟨g1,0,none⟩) ks1.length (ks1.length + 1),.int .i8 op2,.string tv2,.int .i8 xk2,.int .i64 xn2,.string xs2,.slice (some ⟨g2,0,none⟩) ks2.length (ks2.length + 1)] ⟨k,p,a,r,.mk op1 ⟨tv1,⟨xk1,xn1,xs1⟩⟩ ks1,.mk op2 ⟨tv2,⟨xk2,xn2,xs2⟩⟩ ks2⟩:=by
  have q0:TwLt (w.heap.size + 2) w6 [.int .i8 k,.string p,.slice (some ⟨ga,0,none⟩) a.length (a.length + 1),.int .i8 r,.int .i8 op1,.string tv1,.int .i8 xk1,.int .i64 xn1,.string xs1,.slice (some ⟨g1,0,none⟩) ks1.length (ks1.length + 1),.int .i8 op2,.string tv2,.int .i8 xk2,.int .i64 xn2,.string xs2,.slice (some ⟨g2,0,none⟩) ks2.length (ks2.length + 1)] ⟨k,p,a,r,.mk op1 ⟨tv1,⟨xk1,xn1,xs1⟩⟩ ks1,.mk op2 ⟨tv2,⟨xk2,xn2,xs2⟩⟩ ks2⟩:=⟨_,[.int .i8 op1,.string tv1,.int .i8 xk1,.int .i64 xn1,.string xs1,.slice (some ⟨g1,0,none⟩) ks1.length (ks1.length + 1)],[.int .i8 op2,.string tv2,.int .i8 xk2,.int .i64 xn2,.string xs2,.slice (some ⟨g2,0,none⟩) ks2.length (ks2.length + 1)],_,_,rfl,HTa6.out,HT16.out,HT2.out⟩
  exact (q0.only hO7 fun k hk e => by omega).only hO8 fun k hk e => by omega
 refine bodyPost_ret (v:=.agg #[.int .i8 k,.string p,.slice (some ⟨ga,0,none⟩) a.length (a.length + 1),.int .i8 r,.int .i8 op1,.string tv1,.int .i8 xk1,.int .i64 xn1,.string xs1,.slice (some ⟨g1,0,none⟩) ks1.length (ks1.length + 1),.int .i8 op2,.string tv2,.int .i8 xk2,.int .i64 xn2,.string xs2,.slice (some ⟨g2,0,none⟩) ks2.length (ks2.length + 1)]) (results_cell_row rfl _ _ (w.heap.size + 1) _ #[.int .i8 k,.string p,.slice (some ⟨ga,0,none⟩) a.length (a.length + 1),.int .i8 r,.int .i8 op1,.string tv1,.int .i8 xk1,.int .i64 xn1,.string xs1,.slice (some ⟨g1,0,none⟩) ks1.length (ks1.length + 1),.int .i8 op2,.string tv2,.int .i8 xk2,.int .i64 xn2,.string xs2,.slice (some ⟨g2,0,none⟩) ks2.length (ks2.length + 1)] _ _ rfl hb8 Tryz.underlying120 rfl hi3) rfl ?_
 exact ⟨[.int .i8 k,.string p,.slice (some ⟨ga,0,none⟩) a.length (a.length + 1),.int .i8 r,.int .i8 op1,.string tv1,.int .i8 xk1,.int .i64 xn1,.string xs1,.slice (some ⟨g1,0,none⟩) ks1.length (ks1.length + 1),.int .i8 op2,.string tv2,.int .i8 xk2,.int .i64 xn2,.string xs2,.slice (some ⟨g2,0,none⟩) ks2.length (ks2.length + 1)],rfl,rfl,hone,HTL.base (by omega),OW⟩
set_option maxHeartbeats 1000000 in
theorem markLt_any (w:World) (hP:Pows w):Calls Tryz.prog 108 #[.int .i64 777777] w fun e w' => e = .returned (.agg mkLt.toArray)∧Fut w w':=by
 have HW:=Lib.hid (fun w hP => word_any' w hP)
 have hb0:=Lib.hid (blk_zero w zLt 120 (by decide))
 have f0:=Fut.alloc w (.cells zLt.toArray 120)
 unfold mkLt
 generalize wordS = t at HW ⊢
 go_enter Tryz.func108,Tryz.ntmps108
 go_wp2_with fail
 refine (HW.out _ (hP.fut f0)).mono ?_
 rintro e w1 ⟨rfl,h1⟩
 have hb1:=Lib.hid (hb0.out.fut h1)
 have F1:=Lib.hid (f0.trans h1)
 clear h1 f0
 have hi3:=infoLtN
 go_wp2_with (first | (show wpList _ _ _ (Oper.mk _ (Op.store _ _ _) _ _ _ _ :: _) _ _;refine wpList_storeK ([.int .i8 99,.string t,.slice none 0 0,.int .i8 0,.int .i8 0,.string ⟨#[]⟩,.int .i8 0,.int .i64 0,.string ⟨#[]⟩,.slice none 0 0,.int .i8 0,.string ⟨#[]⟩,.int .i8 0,.int .i64 0,.string ⟨#[]⟩,.slice none 0 0]:List Value) rfl _ _ _ rfl rfl rfl hb1.out (fun c hc => (by cases hc)) rfl (by decide) rfl (by decide) hi3 (by intro v hv;simp only [List.mem_cons,List.not_mem_nil,or_false] at hv;rcases hv with (rfl|rfl|rfl|rfl|rfl|rfl|rfl|rfl|rfl|rfl|rfl|rfl|rfl|rfl|rfl|rfl) <;> rfl) ?_;intro w2 hB2 hO2))
 have hb2:=blk_one hB2 rfl
 have OW:Fut w w2:=((Only.fut (S:=fun k => k = w.heap.size) F1.out).trans hO2).toFut fun k hk => by omega
 refine bodyPost_ret (v:=.agg ([.int .i8 99,.string t,.slice none 0 0,.int .i8 0,.int .i8 0,.string ⟨#[]⟩,.int .i8 0,.int .i64 0,.string ⟨#[]⟩,.slice none 0 0,.int .i8 0,.string ⟨#[]⟩,.int .i8 0,.int .i64 0,.string ⟨#[]⟩,.slice none 0 0]:List Value).toArray) (results_cell_row rfl _ _ w.heap.size _ ([.int .i8 99,.string t,.slice none 0 0,.int .i8 0,.int .i8 0,.string ⟨#[]⟩,.int .i8 0,.int .i64 0,.string ⟨#[]⟩,.slice none 0 0,.int .i8 0,.string ⟨#[]⟩,.int .i8 0,.int .i64 0,.string ⟨#[]⟩,.slice none 0 0]:List Value).toArray _ _ rfl hb2 Tryz.underlying120 rfl hi3) rfl ?_
 exact ⟨rfl,OW⟩
abbrev TwLts:Nat→World→Value→List Lt→Prop:=TwinE 16 120 zLt TwLt (fun _ cs => cs = mkLt)
theorem TwLts.keep {B:Nat} {w w':World} {v:Value} {xs:List Lt} (hx:TwLts B w v xs) (hf:Fut w w'):TwLts B w' v xs:=TwinE.fut (fun g _ _ _ _ hf hx => TwLt.keep hx hf) (fun _ _ _ _ h => h) hx hf
theorem TwLts.only {S:Nat→Prop} {B:Nat} {w w':World} {v:Value} {xs:List Lt} (h:TwLts B w v xs) (hO:Only S w w') (hS:∀ k,B ≤ k→¬ S k):TwLts B w' v xs:=TwinE.only h hO hS (fun g' cs x hg hx => TwLt.only hx hO fun k hk => hS k (by omega)) fun _ h => h
set_option maxHeartbeats 2000000 in
theorem twinLts_any {M:Nat} (xs:List Lt) (A:Option Addr) (c:Nat) (w:World) (hP:Pows w) (hx:SlRep 16 M RLt w (.slice A xs.length c) xs) (hn:xs.length ≤ 100000000) (hs:∀ x ∈ xs,x.fits) :
    Calls Tryz.prog 88 #[.slice A xs.length c] w fun e w' => ∃ v,e = .returned v∧TwLts w.heap.size w' v xs∧Fut w w':=by
 obtain ⟨i0,hi0,hz0,hz1,hz2⟩:=info_parts infoLt16
 have hmk:∀ W:World,(Instr.makeSlice 80 (.int .i64 ((xs.length:Int) + 1)) (.int .i64 ((xs.length:Int) + 1))).run Tryz.prog W =
     .ok (.slice (some ⟨W.heap.size,0,none⟩) (xs.length + 1) (xs.length + 1)) (W.alloc (.cells (madeCells zLt.toArray ((xs.length + 1) * 16)) 120)):=fun W => by
  have:=run_make_rowN (P:=Tryz.prog) 80 120 i0 _ Tryz.underlying80 hi0 hz0 .i64 .i64 (xs.length + 1) (xs.length + 1) (Nat.le_refl _) (by rw [hz2];omega) (by omega) W
  rw [hz1] at this
  exact this
 have HB0:=Lib.hid (blk_madeK w zLt (xs.length + 1) 120 (by decide))
 have F0:=Lib.hid (Fut.alloc w (.cells (madeCells zLt.toArray ((xs.length + 1) * 16)) 120))
 have H:=Lib.hid hx
 have HP:=Lib.hid hP
 have HS:=Lib.hid hs
 have hxl:xs.length ≤ 9223372036854775807:=by omega
 have hiN:=infoLtN
 clear hx hP hi0 hz0 hz1 hz2 hs
 go_enter Tryz.func88,Tryz.ntmps88
 go_wp2
 go_loopw [4] (fun i wr => ∃ (k:Nat) (css:List (List Value)),k ≤ xs.length∧i = .int .i64 k∧css.length = k∧Hid (∀ c ∈ css,c.length = 16)∧Hid (BlkF wr w.heap.size 120 ((xs.length + 1) * 16) (cellsAt css zLt 16))∧Hid (∀ (j:Nat) (x:Lt) (cs:List Value),xs[j]? = some x→css[j]? = some cs→TwLt (w.heap.size + 1) wr cs x)∧Hid (Fut w wr)) (fun i _ => xs.length - (intOf i).toNat)
 case atStart => exact ⟨0,[],Nat.zero_le _,rfl,rfl,Lib.hid (fun c hc => by cases hc),HB0,Lib.hid (fun j x cs _ hc => by simp at hc),F0⟩
 case round =>
  obtain ⟨k,css,hk,rfl,hcl,hall,hB,hE,hF⟩:=hrel
  obtain ⟨wA,rfl⟩:∃ x,x = wr:=⟨_,rfl⟩
  have hsz:w.heap.size + 1 ≤ wA.heap.size:=hB.out.lt
  by_cases hlt:k < xs.length
  ·have hltI:(k:Int) < xs.length:=by omega
   have e0:(0:Int) ≤ k∧(k:Int) < xs.length:=by omega
   have e1:(0:Int) ≤ k∧(k:Int) < xs.length + 1:=by omega
   obtain ⟨b',off,cs,rfl,hr,hl6,hcs⟩:=sl_row (H.out.fut RLt.stays hF.out) hlt
   have hzx:=HS.out _ (List.getElem_mem hlt)
   have hxk:xs[k]? = some xs[k]:=List.getElem?_eq_getElem hlt
   generalize xs[k] = z at *
   have HC:=Lib.hid (twinLt_any z cs wA (HP.out.fut hF.out) hr hzx)
   have hcs9:=Lib.hid hcs
   have hxk9:=Lib.hid hxk
   have hi6:(Tryz.prog.info? 120).map (·.size) = some cs.length:=by rw [hl6];exact hiN
   clear hcs hr hzx hxk
   go_wp2_with (first | (show wpList _ _ _ (Oper.mk _ (Op.load _ _) _ _ _ _ :: _) _ _;refine wpList_load_mid rfl _ _ rfl b' (off + k * 16) rfl cs _ hcs9.out Tryz.underlying120 rfl hi6 ?_))
   refine HC.out.mono ?_
   rintro e w1 ⟨cs',rfl,hl,hone,ht,f1⟩
   have hB1:=Lib.hid (hB.out.fut f1)
   have hF1:=Lib.hid (hF.out.trans f1)
   have hT1:=Lib.hid (TwLt.base ht hsz)
   have hE1:=Lib.hid (fun j x cs hx hc => (hE.out j x cs hx hc).keep f1)
   clear ht f1 hB hF hE HC
   go_wp2_with (first | (show wpList _ _ _ (Oper.mk _ (Op.store _ _ _) _ _ _ _ :: _) _ _;refine wpList_storeK cs' rfl _ _ _ rfl rfl rfl hB1.out hall.out (by rw [hcl]) (by rw [hcl];omega) hl (by decide) hiN hone ?_;intro w2 hB2 hO2))
   have HF2:=Lib.hid (((Only.fut (S:=fun k => k = w.heap.size) hF1.out).trans hO2).toFut fun k hk => by omega)
   have HE2:=Lib.hid (show ∀ (j:Nat) (x:Lt) (cs:List Value),xs[j]? = some x→(css ++ [cs'])[j]? = some cs→TwLt (w.heap.size + 1) w2 cs x from fun j x cs hx hc => by
    rcases Nat.lt_or_ge j css.length with hj | hj
    ·rw [List.getElem?_append_left hj] at hc
     exact (hE1.out j x cs hx hc).only hO2 fun k hk e => by omega
    ·have hj':j = k:=by
       have:=(List.getElem?_eq_some_iff.1 hc).1
       simp at this;omega
     subst hj'
     rw [List.getElem?_append_right hj,hcl,Nat.sub_self] at hc
     obtain rfl:=Option.some.inj hc
     rw [hxk9.out] at hx
     obtain rfl:=Option.some.inj hx
     exact hT1.out.only hO2 fun k hk e => by omega)
   have HA2:=Lib.hid (show ∀ c ∈ css ++ [cs'],c.length = 16 from fun c hc => by
    rcases List.mem_append.1 hc with q | q
    ·exact hall.out c q
    ·rw [List.mem_singleton] at q;rw [q];exact hl)
   have HB2:=Lib.hid hB2
   have HL2:=Lib.hid (show (css ++ [cs']).length = k + 1 by rw [List.length_append,hcl];rfl)
   clear hB2 hO2 hB1 hF1 hT1 hE1 hall
   go_wp2
   go_roundw
   case rel => exact ⟨k + 1,css ++ [cs'],by omega,by go_num,HL2.out,HA2,HB2,HE2,HF2⟩
   case measure => simp [intOf] <;> omega
  ·obtain rfl:k = xs.length:=by omega
   have hMk:=Lib.hid (markLt_any wA (HP.out.fut hF.out))
   have e1:(0:Int) ≤ xs.length∧(xs.length:Int) < xs.length + 1:=by omega
   have hone:∀ v ∈ mkLt,v.oneCell' = true:=fun v hv => by
    unfold mkLt at hv
    simp only [List.mem_cons,List.not_mem_nil,or_false] at hv
    rcases hv with (rfl|rfl|rfl|rfl|rfl|rfl|rfl|rfl|rfl|rfl|rfl|rfl|rfl|rfl|rfl|rfl) <;> rfl
   go_wp2_with fail
   refine hMk.out.mono ?_
   rintro e w1 ⟨rfl,f1⟩
   have hB1:=Lib.hid (hB.out.fut f1)
   have hF1:=Lib.hid (hF.out.trans f1)
   have hE1:=Lib.hid (fun j x cs hx hc => (hE.out j x cs hx hc).keep f1)
   clear f1 hB hF hMk hE
   go_wp2_with (first | (show wpList _ _ _ (Oper.mk _ (Op.store _ _ _) _ _ _ _ :: _) _ _;refine wpList_storeK mkLt rfl _ _ _ rfl rfl rfl hB1.out hall.out (by rw [hcl]) (by rw [hcl];omega) rfl (by decide) hiN hone ?_;intro w2 hB2 hO2))
   have HF2:=Lib.hid (((Only.fut (S:=fun k => k = w.heap.size) hF1.out).trans hO2).toFut fun k hk => by omega)
   have HB2:=Lib.hid hB2
   have HE2:=Lib.hid (fun j x cs hx hc => (hE1.out j x cs hx hc).only hO2 fun k hk e => by omega)
   clear hB2 hO2 hB1 hF1 hE1
   go_wp2
   go_ret
   refine ⟨_,rfl,⟨w.heap.size,css ++ [mkLt],Nat.le_refl _,rfl,by rw [List.length_append,hcl];rfl,HB2.out,fun i x cs hx hc => ?_,fun cs hc => ?_⟩,HF2.out⟩
   ·have hi:i < xs.length:=(List.getElem?_eq_some_iff.1 hx).1
    rw [List.getElem?_append_left (by omega)] at hc
    exact ⟨hall.out _ (List.mem_of_getElem? hc),HE2.out i x cs hx hc⟩
   ·rw [List.getElem?_append_right (by omega),hcl,Nat.sub_self] at hc
    obtain rfl:=Option.some.inj hc
    exact ⟨rfl,rfl⟩
theorem TwAr.only {S:Nat→Prop} {B:Nat} {w w':World} {v:Value} {xs:List Ar} (h:TwAr B w v xs) (hO:Only S w w') (hS:∀ k,B ≤ k→¬ S k):TwAr B w' v xs:=TwinE.only h hO hS (fun _ _ _ _ h => h) fun _ h => h
def zRu:List Value:=[.string ⟨#[]⟩,.slice none 0 0,.slice none 0 0]
def mkRu:List Value:=[.string wordS,.slice none 0 0,.slice none 0 0]
theorem infoRu3:(Tryz.prog.info? 82).map (fun i => (i.zero,i.size,i.bytes)) = some (some (.agg zRu.toArray),3,64):=by kernel_rfl
theorem infoRuN:(Tryz.prog.info? 82).map (·.size) = some 3:=by kernel_rfl
theorem infoArs1:(Tryz.prog.info? 79).map (·.size) = some 1:=by kernel_rfl
theorem infoLts1:(Tryz.prog.info? 80).map (·.size) = some 1:=by kernel_rfl
def TwRu (g:Nat) (w:World) (cs:List Value) (x:Ru):Prop:=∃ hv bv,cs = [.string x.p,hv,bv]∧TwAr g w hv x.h∧TwLts g w bv x.b
theorem TwRu.only {S:Nat→Prop} {g:Nat} {w w':World} {cs:List Value} {x:Ru} (h:TwRu g w cs x) (hO:Only S w w') (hS:∀ k,g ≤ k→¬ S k):TwRu g w' cs x:=by
 obtain ⟨hv,bv,e,a,b⟩:=h
 exact ⟨hv,bv,e,TwAr.only a hO hS,TwLts.only b hO hS⟩
theorem TwRu.keep {g:Nat} {w w':World} {cs:List Value} {x:Ru} (h:TwRu g w cs x) (hf:Fut w w'):TwRu g w' cs x:=h.only (S:=fun _ => False) (Only.fut hf) fun _ _ h => h
theorem TwRu.base {g g':Nat} {w:World} {cs:List Value} {x:Ru} (h:TwRu g w cs x) (hg:g' ≤ g):TwRu g' w cs x:=by
 obtain ⟨hv,bv,e,a,b⟩:=h
 exact ⟨hv,bv,e,TwinE.base a hg,TwinE.base b hg⟩
def Ru.fits (x:Ru):Prop:=x.h.length ≤ 100000000∧x.b.length ≤ 100000000∧∀ l ∈ x.b,l.fits
set_option maxHeartbeats 4000000 in
set_option maxRecDepth 100000 in
theorem twinRu_any (x:Ru) (cs:List Value) (w:World) (hP:Pows w) (hx:RRu w cs x) (hs:x.fits) :
    Calls Tryz.prog 26 #[.agg cs.toArray] w fun e w' => ∃ cs',e = .returned (.agg cs'.toArray)∧cs'.length = 3∧(∀ v ∈ cs',v.oneCell' = true)∧TwRu w.heap.size w' cs' x∧Fut w w':=by
 obtain ⟨p,xh,xb⟩:=x
 obtain ⟨hv,bv,rfl,_,hh,hb⟩:=hx
 obtain ⟨s1,s2,s3⟩:=hs
 dsimp only at *
 obtain ⟨A1,c1,rfl,_,_⟩:=hh.form
 obtain ⟨A2,c2,rfl,_,_⟩:=hb.form
 show Calls Tryz.prog 26 #[.agg #[.string p,.slice A1 xh.length c1,.slice A2 xb.length c2]] w _
 have hbx:=heap_alloc_new w (.cells #[.string p,.slice A1 xh.length c1,.slice A2 xb.length c2] 82)
 have f0:=Fut.alloc w (.cells #[.string p,.slice A1 xh.length c1,.slice A2 xb.length c2] 82)
 have hs1:(w.alloc (.cells #[.string p,.slice A1 xh.length c1,.slice A2 xb.length c2] 82)).heap.size = w.heap.size + 1:=by simp
 have hz:=blk_zero (w.alloc (.cells #[.string p,.slice A1 xh.length c1,.slice A2 xb.length c2] 82)) [.string ⟨#[]⟩,.slice none 0 0,.slice none 0 0] 82 (by decide)
 have f1:=Fut.alloc (w.alloc (.cells #[.string p,.slice A1 xh.length c1,.slice A2 xb.length c2] 82)) (.cells #[.string ⟨#[]⟩,.slice none 0 0,.slice none 0 0] 82)
 rw [hs1] at hz
 have hbx1:=f1.block hbx
 have f01:=f0.trans f1
 have hz2:((w.alloc (.cells #[.string p,.slice A1 xh.length c1,.slice A2 xb.length c2] 82)).alloc (.cells #[.string ⟨#[]⟩,.slice none 0 0,.slice none 0 0] 82)).heap.size = w.heap.size + 2:=by simp
 have d1:=cell_at hbx1 1 _ rfl
 have F01:=Lib.hid f01
 have HBX:=Lib.hid hbx1
 have HZ:=Lib.hid hz
 have hi1:=infoArs1
 have hi2:=infoLts1
 have hi3:=infoRuN
 have HA:=Lib.hid (fun W (hW:Fut w W) => twinAr_any A1 c1 xh W (hP.fut hW) (hh.fut RAr.stays hW) s1)
 have HL:=Lib.hid (fun W (hW:Fut w W) => twinLts_any xb A2 c2 W (hP.fut hW) (hb.fut RLt.stays hW) s2 s3)
 have hzB:=Lib.hid hz2
 clear f0 f1 f01 hbx hbx1 hz hs1 hh hb hP hz2 s1 s2 s3
 go_enter Tryz.func26,Tryz.ntmps26
 go_wp2_with fail
 refine (HA.out _ F01.out).mono ?_
 rintro e w2 ⟨v1,rfl,ht1,f2⟩
 have HT1:=Lib.hid (by rw [hzB.out] at ht1;exact ht1)
 obtain ⟨g1,_,rfl,_⟩:=TwinE.mark ht1 rfl (by decide)
 have hb2:=f2.block HBX.out
 have HZ2:=Lib.hid (HZ.out.fut f2)
 have F2:=Lib.hid (F01.out.trans f2)
 have hz2:w.heap.size + 2 ≤ w2.heap.size:=by have:=f2.size;have:=hzB.out;omega
 have k1:=cell_at hb2 1 _ rfl
 have k2:=free_at hb2 1
 obtain ⟨w3,hw3⟩:∃ W,w2.setCell ⟨w.heap.size,1,none⟩ (.slice (some ⟨g1,0,none⟩) xh.length (xh.length + 1)) = W:=⟨_,rfl⟩
 have O3:Only (fun k => k = w.heap.size) w2 w3:=by rw [← hw3];exact Only.set _ _ rfl
 have hb3:w3.heap[w.heap.size]? = some (.cells #[.string p,.slice (some ⟨g1,0,none⟩) xh.length (xh.length + 1),.slice A2 xb.length c2] 82 (0,0)):=by rw [← hw3];simp [World.setCell,Array.getElem?_modify,hb2]
 have q2:=cell_at hb3 2 _ rfl
 rw [← hw3] at q2
 have F3:=Lib.hid (show Fut w w3 from ((Only.fut (S:=fun k => k = w.heap.size) F2.out).trans O3).toFut fun k hk => by omega)
 have HZ3:=Lib.hid (HZ2.out.onlyT O3 (by omega))
 have HT3:=Lib.hid (TwAr.only HT1.out O3 (fun k hk e => by omega))
 have hz3:w.heap.size + 2 ≤ w3.heap.size:=Nat.le_trans hz2 O3.size
 have HB3:=Lib.hid hb3
 have hw3':=Lib.hid hw3
 clear ht1 f2 hb2 HZ2 F2 hz2 O3 hb3 HT1 HA hw3 d1
 go_wp2_with fail
 rw [hw3'.out]
 refine (HL.out _ F3.out).mono ?_
 rintro e w4 ⟨v2,rfl,ht2,f4⟩
 have HT2:=Lib.hid (TwinE.base ht2 hz3)
 obtain ⟨g2,_,rfl,_⟩:=TwinE.mark ht2 rfl (by decide)
 have hb4:=f4.block HB3.out
 have HZ4:=Lib.hid (HZ3.out.fut f4)
 have F4:=Lib.hid (F3.out.trans f4)
 have HT4:=Lib.hid (TwAr.keep HT3.out f4)
 have j1:=cell_at hb4 2 _ rfl
 have j2:=free_at hb4 2
 obtain ⟨w5,hw5⟩:∃ W,w4.setCell ⟨w.heap.size,2,none⟩ (.slice (some ⟨g2,0,none⟩) xb.length (xb.length + 1)) = W:=⟨_,rfl⟩
 have O5:Only (fun k => k = w.heap.size) w4 w5:=by rw [← hw5];exact Only.set _ _ rfl
 have hb5:w5.heap[w.heap.size]? = some (.cells #[.string p,.slice (some ⟨g1,0,none⟩) xh.length (xh.length + 1),.slice (some ⟨g2,0,none⟩) xb.length (xb.length + 1)] 82 (0,0)):=by rw [← hw5];simp [World.setCell,Array.getElem?_modify,hb4]
 have hrg:=Lib.hid (block_range (cs:=[.string p,.slice (some ⟨g1,0,none⟩) xh.length (xh.length + 1),.slice (some ⟨g2,0,none⟩) xb.length (xb.length + 1)]) hb5)
 have HZ5:=Lib.hid (HZ4.out.onlyT O5 (by omega))
 have HT5:=Lib.hid (TwAr.only HT4.out O5 (fun k hk e => by omega))
 have HT25:=Lib.hid (TwLts.only HT2.out O5 (fun k hk e => by omega))
 have HO5:=Lib.hid ((Only.fut (S:=fun k => w.heap.size ≤ k∧k < w.heap.size + 2) F4.out).trans (O5.mono (S':=fun k => w.heap.size ≤ k∧k < w.heap.size + 2) fun k _ e => by omega))
 have hone:∀ v ∈ ([.string p,.slice (some ⟨g1,0,none⟩) xh.length (xh.length + 1),.slice (some ⟨g2,0,none⟩) xb.length (xb.length + 1)]:List Value),v.oneCell' = true:=fun v hv => by
  simp only [List.mem_cons,List.not_mem_nil,or_false] at hv
  rcases hv with (rfl|rfl|rfl) <;> rfl
 have hw5':=Lib.hid hw5
 clear ht2 f4 hb4 O5 hb5 HT4 HT3 HT2 HL hw5 k1 k2 q2 hz3 HZ4 HZ3
 go_wp2_with (first | (show wpList _ _ _ (Oper.mk _ (Op.store 80 _ _) _ _ _ _ :: _) _ _;refine wpList_store_1 (wanted_none rfl _) _ _ rfl rfl rfl hi2 rfl j1 j2 hw5'.out ?_) | (show wpList _ _ _ (Oper.mk _ (Op.load 82 _) _ _ _ _ :: _) _ _;refine wpList_load_mid rfl _ _ rfl w.heap.size 0 rfl [.string p,.slice (some ⟨g1,0,none⟩) xh.length (xh.length + 1),.slice (some ⟨g2,0,none⟩) xb.length (xb.length + 1)] _ hrg.out Tryz.underlying82 rfl hi3 ?_) | (show wpList _ _ _ (Oper.mk _ (Op.store 82 _ _) _ _ _ _ :: _) _ _;refine wpList_storeK [.string p,.slice (some ⟨g1,0,none⟩) xh.length (xh.length + 1),.slice (some ⟨g2,0,none⟩) xb.length (xb.length + 1)] rfl _ _ _ rfl rfl rfl HZ5.out (fun c hc => (by cases hc)) rfl (by decide) rfl (by decide) hi3 hone ?_;intro w8 hB8 hO8))
 have hb8:=blk_one hB8 rfl
 have OW:Fut w w8:=(HO5.out.trans (hO8.mono (S':=fun k => w.heap.size ≤ k∧k < w.heap.size + 2) fun k _ e => by omega)).toFut fun k hk => hk.1
 have HTL:TwRu (w.heap.size + 2) w8 [.string p,.slice (some ⟨g1,0,none⟩) xh.length (xh.length + 1),.slice (some ⟨g2,0,none⟩) xb.length (xb.length + 1)] ⟨p,xh,xb⟩:=by
  have q0:TwRu (w.heap.size + 2) w5 [.string p,.slice (some ⟨g1,0,none⟩) xh.length (xh.length + 1),.slice (some ⟨g2,0,none⟩) xb.length (xb.length + 1)] ⟨p,xh,xb⟩:=⟨_,_,rfl,HT5.out,HT25.out⟩
  exact q0.only hO8 fun k hk e => by omega
 refine bodyPost_ret (v:=.agg #[.string p,.slice (some ⟨g1,0,none⟩) xh.length (xh.length + 1),.slice (some ⟨g2,0,none⟩) xb.length (xb.length + 1)]) (results_cell_row rfl _ _ (w.heap.size + 1) _ #[.string p,.slice (some ⟨g1,0,none⟩) xh.length (xh.length + 1),.slice (some ⟨g2,0,none⟩) xb.length (xb.length + 1)] _ _ rfl hb8 Tryz.underlying82 rfl hi3) rfl ?_
 exact ⟨[.string p,.slice (some ⟨g1,0,none⟩) xh.length (xh.length + 1),.slice (some ⟨g2,0,none⟩) xb.length (xb.length + 1)],rfl,rfl,hone,HTL.base (by omega),OW⟩
set_option maxHeartbeats 1000000 in
theorem markRu_any (w:World) (hP:Pows w):Calls Tryz.prog 27 #[.int .i64 777777] w fun e w' => e = .returned (.agg mkRu.toArray)∧Fut w w':=by
 have HW:=Lib.hid (fun w hP => word_any' w hP)
 have hb0:=Lib.hid (blk_zero w zRu 82 (by decide))
 have f0:=Fut.alloc w (.cells zRu.toArray 82)
 unfold mkRu
 generalize wordS = t at HW ⊢
 go_enter Tryz.func27,Tryz.ntmps27
 go_wp2_with fail
 refine (HW.out _ (hP.fut f0)).mono ?_
 rintro e w1 ⟨rfl,h1⟩
 have hb1:=Lib.hid (hb0.out.fut h1)
 have F1:=Lib.hid (f0.trans h1)
 clear h1 f0
 have hi3:=infoRuN
 go_wp2_with (first | (show wpList _ _ _ (Oper.mk _ (Op.store _ _ _) _ _ _ _ :: _) _ _;refine wpList_storeK ([.string t,.slice none 0 0,.slice none 0 0]:List Value) rfl _ _ _ rfl rfl rfl hb1.out (fun c hc => (by cases hc)) rfl (by decide) rfl (by decide) hi3 (by intro v hv;simp only [List.mem_cons,List.not_mem_nil,or_false] at hv;rcases hv with (rfl|rfl|rfl) <;> rfl) ?_;intro w2 hB2 hO2))
 have hb2:=blk_one hB2 rfl
 have OW:Fut w w2:=((Only.fut (S:=fun k => k = w.heap.size) F1.out).trans hO2).toFut fun k hk => by omega
 refine bodyPost_ret (v:=.agg ([.string t,.slice none 0 0,.slice none 0 0]:List Value).toArray) (results_cell_row rfl _ _ w.heap.size _ ([.string t,.slice none 0 0,.slice none 0 0]:List Value).toArray _ _ rfl hb2 Tryz.underlying82 rfl hi3) rfl ?_
 exact ⟨rfl,OW⟩
abbrev TwRus:Nat→World→Value→List Ru→Prop:=TwinE 3 82 zRu TwRu (fun _ cs => cs = mkRu)
theorem TwRus.keep {B:Nat} {w w':World} {v:Value} {xs:List Ru} (hx:TwRus B w v xs) (hf:Fut w w'):TwRus B w' v xs:=TwinE.fut (fun g _ _ _ _ hf hx => TwRu.keep hx hf) (fun _ _ _ _ h => h) hx hf
set_option maxHeartbeats 2000000 in
theorem twinRus_any {M:Nat} (xs:List Ru) (A:Option Addr) (c:Nat) (w:World) (hP:Pows w) (hx:SlRep 3 M RRu w (.slice A xs.length c) xs) (hn:xs.length ≤ 100000000) (hs:∀ x ∈ xs,x.fits) :
    Calls Tryz.prog 7 #[.slice A xs.length c] w fun e w' => ∃ v,e = .returned v∧TwRus w.heap.size w' v xs∧Fut w w':=by
 obtain ⟨i0,hi0,hz0,hz1,hz2⟩:=info_parts infoRu3
 have hmk:∀ W:World,(Instr.makeSlice 22 (.int .i64 ((xs.length:Int) + 1)) (.int .i64 ((xs.length:Int) + 1))).run Tryz.prog W =
     .ok (.slice (some ⟨W.heap.size,0,none⟩) (xs.length + 1) (xs.length + 1)) (W.alloc (.cells (madeCells zRu.toArray ((xs.length + 1) * 3)) 82)):=fun W => by
  have:=run_make_rowN (P:=Tryz.prog) 22 82 i0 _ Tryz.underlying22 hi0 hz0 .i64 .i64 (xs.length + 1) (xs.length + 1) (Nat.le_refl _) (by rw [hz2];omega) (by omega) W
  rw [hz1] at this
  exact this
 have HB0:=Lib.hid (blk_madeK w zRu (xs.length + 1) 82 (by decide))
 have F0:=Lib.hid (Fut.alloc w (.cells (madeCells zRu.toArray ((xs.length + 1) * 3)) 82))
 have H:=Lib.hid hx
 have HP:=Lib.hid hP
 have HS:=Lib.hid hs
 have hxl:xs.length ≤ 9223372036854775807:=by omega
 have hiN:=infoRuN
 clear hx hP hi0 hz0 hz1 hz2 hs
 go_enter Tryz.func7,Tryz.ntmps7
 go_wp2
 go_loopw [4] (fun i wr => ∃ (k:Nat) (css:List (List Value)),k ≤ xs.length∧i = .int .i64 k∧css.length = k∧Hid (∀ c ∈ css,c.length = 3)∧Hid (BlkF wr w.heap.size 82 ((xs.length + 1) * 3) (cellsAt css zRu 3))∧Hid (∀ (j:Nat) (x:Ru) (cs:List Value),xs[j]? = some x→css[j]? = some cs→TwRu (w.heap.size + 1) wr cs x)∧Hid (Fut w wr)) (fun i _ => xs.length - (intOf i).toNat)
 case atStart => exact ⟨0,[],Nat.zero_le _,rfl,rfl,Lib.hid (fun c hc => by cases hc),HB0,Lib.hid (fun j x cs _ hc => by simp at hc),F0⟩
 case round =>
  obtain ⟨k,css,hk,rfl,hcl,hall,hB,hE,hF⟩:=hrel
  obtain ⟨wA,rfl⟩:∃ x,x = wr:=⟨_,rfl⟩
  have hsz:w.heap.size + 1 ≤ wA.heap.size:=hB.out.lt
  by_cases hlt:k < xs.length
  ·have hltI:(k:Int) < xs.length:=by omega
   have e0:(0:Int) ≤ k∧(k:Int) < xs.length:=by omega
   have e1:(0:Int) ≤ k∧(k:Int) < xs.length + 1:=by omega
   obtain ⟨b',off,cs,rfl,hr,hl6,hcs⟩:=sl_row (H.out.fut RRu.stays hF.out) hlt
   have hzx:=HS.out _ (List.getElem_mem hlt)
   have hxk:xs[k]? = some xs[k]:=List.getElem?_eq_getElem hlt
   generalize xs[k] = z at *
   have HC:=Lib.hid (twinRu_any z cs wA (HP.out.fut hF.out) hr hzx)
   have hcs9:=Lib.hid hcs
   have hxk9:=Lib.hid hxk
   have hi6:(Tryz.prog.info? 82).map (·.size) = some cs.length:=by rw [hl6];exact hiN
   clear hcs hr hzx hxk
   go_wp2_with (first | (show wpList _ _ _ (Oper.mk _ (Op.load _ _) _ _ _ _ :: _) _ _;refine wpList_load_mid rfl _ _ rfl b' (off + k * 3) rfl cs _ hcs9.out Tryz.underlying82 rfl hi6 ?_))
   refine HC.out.mono ?_
   rintro e w1 ⟨cs',rfl,hl,hone,ht,f1⟩
   have hB1:=Lib.hid (hB.out.fut f1)
   have hF1:=Lib.hid (hF.out.trans f1)
   have hT1:=Lib.hid (TwRu.base ht hsz)
   have hE1:=Lib.hid (fun j x cs hx hc => (hE.out j x cs hx hc).keep f1)
   clear ht f1 hB hF hE HC
   go_wp2_with (first | (show wpList _ _ _ (Oper.mk _ (Op.store _ _ _) _ _ _ _ :: _) _ _;refine wpList_storeK cs' rfl _ _ _ rfl rfl rfl hB1.out hall.out (by rw [hcl]) (by rw [hcl];omega) hl (by decide) hiN hone ?_;intro w2 hB2 hO2))
   have HF2:=Lib.hid (((Only.fut (S:=fun k => k = w.heap.size) hF1.out).trans hO2).toFut fun k hk => by omega)
   have HE2:=Lib.hid (show ∀ (j:Nat) (x:Ru) (cs:List Value),xs[j]? = some x→(css ++ [cs'])[j]? = some cs→TwRu (w.heap.size + 1) w2 cs x from fun j x cs hx hc => by
    rcases Nat.lt_or_ge j css.length with hj | hj
    ·rw [List.getElem?_append_left hj] at hc
     exact (hE1.out j x cs hx hc).only hO2 fun k hk e => by omega
    ·have hj':j = k:=by
       have:=(List.getElem?_eq_some_iff.1 hc).1
       simp at this;omega
     subst hj'
     rw [List.getElem?_append_right hj,hcl,Nat.sub_self] at hc
     obtain rfl:=Option.some.inj hc
     rw [hxk9.out] at hx
     obtain rfl:=Option.some.inj hx
     exact hT1.out.only hO2 fun k hk e => by omega)
   have HA2:=Lib.hid (show ∀ c ∈ css ++ [cs'],c.length = 3 from fun c hc => by
    rcases List.mem_append.1 hc with q | q
    ·exact hall.out c q
    ·rw [List.mem_singleton] at q;rw [q];exact hl)
   have HB2:=Lib.hid hB2
   have HL2:=Lib.hid (show (css ++ [cs']).length = k + 1 by rw [List.length_append,hcl];rfl)
   clear hB2 hO2 hB1 hF1 hT1 hE1 hall
   go_wp2
   go_roundw
   case rel => exact ⟨k + 1,css ++ [cs'],by omega,by go_num,HL2.out,HA2,HB2,HE2,HF2⟩
   case measure => simp [intOf] <;> omega
  ·obtain rfl:k = xs.length:=by omega
   have hMk:=Lib.hid (markRu_any wA (HP.out.fut hF.out))
   have e1:(0:Int) ≤ xs.length∧(xs.length:Int) < xs.length + 1:=by omega
   have hone:∀ v ∈ mkRu,v.oneCell' = true:=fun v hv => by
    unfold mkRu at hv
    simp only [List.mem_cons,List.not_mem_nil,or_false] at hv
    rcases hv with (rfl|rfl|rfl) <;> rfl
   go_wp2_with fail
   refine hMk.out.mono ?_
   rintro e w1 ⟨rfl,f1⟩
   have hB1:=Lib.hid (hB.out.fut f1)
   have hF1:=Lib.hid (hF.out.trans f1)
   have hE1:=Lib.hid (fun j x cs hx hc => (hE.out j x cs hx hc).keep f1)
   clear f1 hB hF hMk hE
   go_wp2_with (first | (show wpList _ _ _ (Oper.mk _ (Op.store _ _ _) _ _ _ _ :: _) _ _;refine wpList_storeK mkRu rfl _ _ _ rfl rfl rfl hB1.out hall.out (by rw [hcl]) (by rw [hcl];omega) rfl (by decide) hiN hone ?_;intro w2 hB2 hO2))
   have HF2:=Lib.hid (((Only.fut (S:=fun k => k = w.heap.size) hF1.out).trans hO2).toFut fun k hk => by omega)
   have HB2:=Lib.hid hB2
   have HE2:=Lib.hid (fun j x cs hx hc => (hE1.out j x cs hx hc).only hO2 fun k hk e => by omega)
   clear hB2 hO2 hB1 hF1 hE1
   go_wp2
   go_ret
   refine ⟨_,rfl,⟨w.heap.size,css ++ [mkRu],Nat.le_refl _,rfl,by rw [List.length_append,hcl];rfl,HB2.out,fun i x cs hx hc => ?_,fun cs hc => ?_⟩,HF2.out⟩
   ·have hi:i < xs.length:=(List.getElem?_eq_some_iff.1 hx).1
    rw [List.getElem?_append_left (by omega)] at hc
    exact ⟨hall.out _ (List.mem_of_getElem? hc),HE2.out i x cs hx hc⟩
   ·rw [List.getElem?_append_right (by omega),hcl,Nat.sub_self] at hc
    obtain rfl:=Option.some.inj hc
    exact ⟨rfl,rfl⟩
end Go.Proofs.YtobabnpllokkaaaGreatDoor
