/- Parts. -/
import Derived.ScopeJumps
import Derived.Test.YtobabnpllokkaaaGreatDoorM17
import Derived.Test.YtobabnpllokkaaaGreatDoorM13
import Derived.Test.YtobabnpllokkaaaGreatDoorM15
import Derived.Test.YtobabnpllokkaaaGreatDoorM00
set_option linter.unusedSimpArgs false
set_option linter.unusedVariables false
namespace Go.Proofs.YtobabnpllokkaaaGreatDoor
open Go.RowKit Go.WideMaps Go.Maps
theorem least_ex {p:Nat→Prop}:∀ n,p n→∃ m,p m∧∀ k,p k→m ≤ k:=by
 intro n
 induction n using Nat.strongRecOn with
 | _ n ih =>
  intro hn
  by_cases h:∃ m,m < n∧p m
  ·obtain ⟨m,hm,hp⟩:=h
   exact ih m hm hp
  ·exact ⟨n,hn,fun k hk => Nat.le_of_not_lt fun hlt => h ⟨k,hlt,hk⟩⟩
open Classical in
noncomputable def leastF (p:Nat→Prop):Nat:=if h:∃ m,p m∧∀ k,p k→m ≤ k then h.choose else 0
theorem leastF_spec {p:Nat→Prop} {n:Nat} (h:p n):p (leastF p)∧∀ k,p k→leastF p ≤ k:=by
 have h':=least_ex n h
 unfold leastF
 rw [dif_pos h']
 exact h'.choose_spec
theorem wp_scope_jumps2 {P:Program} {a:Act} {w:World} {Q:Exit→Act→World→Prop} {c rest:Code} (l:Nat) (J:Act→World→Prop) (μ:Act→World→Nat) (hf:findLabel c l = some (.seq .skip rest))
    (pass:∀ a w,J a w→rest.wp P (Exit.jump l (fun a' w' => J a' w'∧μ a' w' < μ a w) Q) a w)
    (first:Hid (∀ a w,J a w→rest.wp P (Exit.jump l J Q) a w)→c.wp P (Exit.jump l J Q) a w):(Code.scope c).wp P Q a w :=
 wp_scope_jumps l J μ hf (first (Lib.hid fun a w h => wp_mono (pass a w h) fun e a' w' hq => by
  cases e with
  | goto l' => exact ⟨hq.1,hq.2.1⟩
  | _ => exact hq)) fun a w h => wp_seq (wp_skip (pass a w h))
theorem putN_mem {l:Nums} {s:ByteArray} {n:Nat}:∀ x ∈ putN l s n,x ∈ l∨x = (s,n):=fun x hx => by
 unfold putN at hx
 obtain ⟨y,hy,rfl⟩:=List.mem_map.1 hx
 by_cases h:y.1 = s
 ·right;simp [h]
 ·left;simp [h,hy]
theorem setN_mem {l:Nums} {s:ByteArray} {n:Nat}:∀ x ∈ setN l s n,x ∈ l∨x = (s,n):=fun x hx => by
 unfold setN at hx
 split at hx
 ·rcases List.mem_append.1 hx with h | h
  ·exact .inl h
  ·exact .inr (List.mem_singleton.1 h)
 ·exact putN_mem x hx
theorem lk0_le {l:Nums} {B:Nat} (h:∀ x ∈ l,x.2 ≤ B) (s:ByteArray):lk0 l s ≤ B:=by
 unfold lk0 lkN
 cases hq:l.find? fun x => decide (x.1 = s) with
 | none => exact Nat.zero_le _
 | some x => exact h x (List.mem_of_find?_eq_some hq)
theorem wants_le {l:Nums} {B:Nat} (h:∀ x ∈ l,x.2 ≤ B) (e:Ed):e.wants l ≤ B + 1:=by
 unfold Ed.wants
 have:=lk0_le h e.t
 split <;> omega
structure OkN (n:Nums) (B:Nat):Prop where
 nm:∀ x ∈ n,x.1.size ≤ 140737488351232
 le:∀ x ∈ n,x.2 ≤ B
theorem OkN.step {s:Nums × Bool} {B:Nat} (h:OkN s.1 B) {e:Ed} (he:e.f.size ≤ 140737488351232):OkN (stepR s e).1 (B + 1):=by
 unfold stepR
 split
 ·refine ⟨fun x hx => ?_,fun x hx => ?_⟩
  ·rcases setN_mem x hx with h1 | rfl
   ·exact h.nm x h1
   ·exact he
  ·rcases setN_mem x hx with h1 | rfl
   ·have:=h.le x h1;omega
   ·exact wants_le h.le e
 ·exact ⟨h.nm,fun x hx => Nat.le_succ_of_le (h.le x hx)⟩
theorem OkN.fold:∀ (es:List Ed) {s:Nums × Bool} {B:Nat},OkN s.1 B→(∀ e ∈ es,e.f.size ≤ 140737488351232)→OkN (es.foldl stepR s).1 (B + es.length)
 | [],s,B,h,_ => h
 | e :: r,s,B,h,he => by
  rw [List.foldl_cons,List.length_cons,show B + (r.length + 1) = B + 1 + r.length by omega]
  exact OkN.fold r (h.step (he e List.mem_cons_self)) fun x hx => he x (List.mem_cons_of_mem _ hx)
theorem raise_ok {es:List Ed} {f:Nat} {n nf:Nums} (h:raiseR es f n = some nf):∃ f',f = f' + 1∧(∀ x ∈ n,x.2 ≤ 100000000)∧((roundR es n).2 = true→raiseR es f' (roundR es n).1 = some nf)∧((roundR es n).2 = false→(roundR es n).1 = nf):=by
 cases f with
 | zero => cases h
 | succ f =>
  unfold raiseR at h
  split at h
  ·rename_i h1
   refine ⟨f,rfl,fun x hx => by simpa using List.all_eq_true.1 h1 x hx,fun h2 => ?_,fun h2 => ?_⟩
   ·rw [if_pos h2] at h;exact h
   ·rw [if_neg (by rw [h2];decide)] at h
    exact Option.some.inj h
  ·cases h
abbrev tLev:TypeId:=126
def RLv (_:World) (cs:List Value) (x:ByteArray × Nat):Prop:=cs = [.string x.1,.int .i32 (x.2:Nat)]
theorem RLv.stays:Stays RLv:=fun _ _ _ _ _ h => h
theorem RLv.keeps {e:TypeId}:Keeps e RLv:=fun _ _ _ _ _ h _ _ => h
theorem RLv.one:∀ (w:World) cs x,RLv w cs x→∀ u ∈ cs,u.oneCell' = true:=fun w cs x h u hu => by
 obtain rfl:cs = _:=h
 simp only [List.mem_cons,List.not_mem_nil,or_false] at hu
 rcases hu with rfl | rfl <;> rfl
theorem infoLv:(Tryz.prog.info? 126).map (fun i => (i.zero,i.size,i.bytes)) = some (some (.agg #[.string ⟨#[]⟩,.int .i32 0]),2,24):=by kernel_rfl
theorem lvOne (w:World) (s:ByteArray) (n:Nat) (e:TypeId):SlRep 2 1 RLv (w.alloc (.cells #[.string s,.int .i32 (n:Nat)] e)) (.slice (some ⟨w.heap.size,0,none⟩) 1 1) [(s,n)]:=slOne w [.string s,.int .i32 (n:Nat)] _ e rfl rfl
def LevJ (w0:World) (es:List Ed) (G:Gr) (nf:Nums) (f:Nat) (a:Act) (W:World):Prop :=
 ∃ (Ae:Option Addr) (ce mb mbl:Nat) (n:Nums) (wb:World),
  Hid (Fut w0 wb)∧Hid (OwnL 4 w0.heap.size tEdge REd wb (.slice Ae es.length ce) es)∧Hid (GrI w0.heap.size wb mb G)∧Hid (wb.heap.size ≤ mbl)∧Hid (Fut wb W)∧Hid (MapE strV W mbl (encQ n))∧Hid (OkN n 100000000)∧Hid (raiseR es f n = some nf) ∧
  ∃ (u0 u1 u2 u3 u4 u7 u8 u9 u10 u12 u13 u14 u15 u16 u17 u18 u19 u20 u21 u22 u23 u24 u25 u26 u27 u28 u29 u30 u31 u32 u33 u34 u35 u36 u37 u38 u39 u40 u41 u42 u43 u44 u45 u46 u47 u48 u49 u50 u51 u52 u53 u54 u55 u56 u57 u58 u59 u60 u61 u62 u63 u64 u65 u66 u67 u68 u69 u70 u71 u72 u73 u74 u75 u76 u77 u78 u79 u80 u81 u82 u83 u84 u85 u86 u87 u88 u89 u90 u91 u92 u93 u94 u95 u96 u97 u98 u99 u100 u101 u102 u103 u104 u105:Value),a = ⟨#[u0,u1,u2,u3,u4,.slice Ae es.length ce,.map (some mb),u7,u8,u9,u10,.map (some mbl),u12,u13,u14,u15,u16,u17,u18,u19,u20,u21,u22,u23,u24,u25,u26,u27,u28,u29,u30,u31,u32,u33,u34,u35,u36,u37,u38,u39,u40,u41,u42,u43,u44,u45,u46,u47,u48,u49,u50,u51,u52,u53,u54,u55,u56,u57,u58,u59,u60,u61,u62,u63,u64,u65,u66,u67,u68,u69,u70,u71,u72,u73,u74,u75,u76,u77,u78,u79,u80,u81,u82,u83,u84,u85,u86,u87,u88,u89,u90,u91,u92,u93,u94,u95,u96,u97,u98,u99,u100,u101,u102,u103,u104,u105],[]⟩
noncomputable def LevM (w0:World) (es:List Ed) (G:Gr) (nf:Nums) (a:Act) (W:World):Nat:=leastF fun f => LevJ w0 es G nf f a W
theorem lev_next {w0:World} {es:List Ed} {G:Gr} {nf:Nums} {f:Nat} {a:Act} {W:World} (h:LevJ w0 es G nf f a W):(∃ f,LevJ w0 es G nf f a W)∧LevM w0 es G nf a W < f + 1:=⟨⟨f,h⟩,Nat.lt_succ_of_le ((leastF_spec (p:=fun f => LevJ w0 es G nf f a W) h).2 f h)⟩
theorem gsorted_len (G:Gr):G.sorted.length ≤ G.length:=by
 have hi:∀ (x:ByteArray) (m:List ByteArray),(insU cmpS x m).length ≤ m.length + 1:=fun x m => by
  induction m with
  | nil => simp [insU]
  | cons y r ih =>
   unfold insU
   split
   ·simp
   ·split
    ·simp
    ·simp only [List.length_cons];omega
 have hs:∀ l:List ByteArray,(sortU cmpS l).length ≤ l.length:=fun l => by
  induction l with
  | nil => simp [sortU]
  | cons x r ih =>
   have h:=hi x (sortU cmpS r)
   show (insU cmpS x (sortU cmpS r)).length ≤ _
   rw [List.length_cons];omega
 have:=hs G.names
 unfold Gr.names at this
 rw [List.length_map] at this
 exact this
set_option maxHeartbeats 4000000 in
set_option maxRecDepth 100000 in
theorem levelsG_any {M:Nat} (A:Option Addr) (c:Nat) (rs:List Ru) (w:World) (h:SlRep 3 M RRu w (.slice A rs.length c) rs) (hM:M ≤ 9223372036854775807) (hS:Small rs) (N:Nat) (T:TS) (hT:tarjT (drawP rs) N = some T) (hGl:(drawP rs).length ≤ 100000000) (hx:blameE T.inn (edgesP rs) = none) (nf:Nums) (f0:Nat) (hf0:raiseR (edgesP rs) f0 [] = some nf) :
    Calls Tryz.prog 74 #[.agg #[.slice A rs.length c]] w fun e w' => ∃ v,e = .returned (.tuple #[v,.int .i64 0,.int .i64 0])∧OwnL 2 w.heap.size tLev RLv w' v ((drawP rs).sorted.map fun s => (s,lk0 nf s))∧Fut w w':=by
 obtain ⟨_,_,hv,hl1,hl2⟩:=h.form
 have hxl:rs.length ≤ 9223372036854775807:=by omega
 have HE:=Lib.hid (fun W (hW:Fut w W) => edges_any A c rs W (h.fut RRu.stays hW) hM hS)
 have HD:=Lib.hid (fun W (hW:Fut w W) => draw_any A c rs W (h.fut RRu.stays hW) hM hS)
 have HO:=Lib.hid (edgeP_ok h)
 have HN:=hS.edges
 obtain ⟨es,hes⟩:∃ es,edgesP rs = es:=⟨_,rfl⟩
 obtain ⟨G,hG9⟩:∃ G,drawP rs = G:=⟨_,rfl⟩
 simp only [hes] at HE HO HN hx hf0
 simp only [hG9] at HD hT hGl ⊢
 have hbx:=heap_alloc_new w (.cells #[.slice A rs.length c] 28)
 have F0:=Lib.hid (Fut.alloc w (.cells #[.slice A rs.length c] 28))
 have c0:=cell_at hbx 0 (.slice A rs.length c) rfl
 have hT':=Lib.hid hT
 have hGl':=Lib.hid hGl
 have hx':=Lib.hid hx
 have hf0':=Lib.hid hf0
 replace HN:=Lib.hid HN
 clear h hS hl1 hl2 hv hbx hT hGl hx hes hG9 hf0
 go_enter Tryz.func74,Tryz.ntmps74
 go_wp2_with fail
 refine wp_scope_jumps2 0 (fun a W => ∃ f,LevJ w es G nf f a W) (LevM w es G nf) rfl ?pass ?first
 case pass =>
  intro a W hJ
  obtain ⟨f,hJ⟩:=hJ
  have hm9:=leastF_spec (p:=fun f => LevJ w es G nf f a W) hJ
  rw [show LevM w es G nf a W = leastF (fun f => LevJ w es G nf f a W) from rfl]
  generalize leastF (fun f => LevJ w es G nf f a W) = m at *
  obtain ⟨hJ,-⟩:=hm9
  obtain ⟨Ae,ce,mb,mbl,n,wb,F0b,HO3,HG,HB,FB,HM,HK,HR,z0,z1,z2,z3,z4,z7,z8,z9,z10,z12,z13,z14,z15,z16,z17,z18,z19,z20,z21,z22,z23,z24,z25,z26,z27,z28,z29,z30,z31,z32,z33,z34,z35,z36,z37,z38,z39,z40,z41,z42,z43,z44,z45,z46,z47,z48,z49,z50,z51,z52,z53,z54,z55,z56,z57,z58,z59,z60,z61,z62,z63,z64,z65,z66,z67,z68,z69,z70,z71,z72,z73,z74,z75,z76,z77,z78,z79,z80,z81,z82,z83,z84,z85,z86,z87,z88,z89,z90,z91,z92,z93,z94,z95,z96,z97,z98,z99,z100,z101,z102,z103,z104,z105,rfl⟩:=hJ
  obtain ⟨m',rfl,hb8,hr1,hr2⟩:=raise_ok HR.out
  have HR1:=Lib.hid hr1
  have HR2:=Lib.hid hr2
  clear hr1 hr2 hb8 HR
  obtain ⟨_,_,hel0,hel1,hel2⟩:=HO3.out.rep.form
  have hel3:es.length ≤ 9223372036854775807:=by unfold maxLen at hel2;omega
  clear hel0 hel1 hel2 HE HD hx' hT' c0
  go_wp2_with fail
  go_loopw [12,64] (fun r i wr => ∃ (k:Nat) (st:Nums × Bool),k ≤ es.length∧i = .int .i64 k∧r = .bool st.2∧Hid ((es.take k).foldl stepR (n,false) = st)∧Hid (Fut wb wr)∧Hid (MapE strV wr mbl (encQ st.1))) (fun _ i _ => es.length - (intOf i).toNat)
  case atStart => exact ⟨0,(n,false),Nat.zero_le _,rfl,rfl,Lib.hid rfl,FB,HM⟩
  case round =>
   obtain ⟨k,⟨n1,r1⟩,hk,rfl,rfl,hS,hF,hMm⟩:=hrel
   dsimp only at *
   have hok:=hS.out ▸ OkN.fold (es.take k) (s:=(n,false)) HK.out (fun e he => (HO.out e (List.mem_of_mem_take he)).1)
   rw [List.length_take] at hok
   have HOk:=Lib.hid hok
   clear hok
   by_cases hlt:k < es.length
   ·have hltI:(k:Int) < es.length:=by omega
    have e0:(0:Int) ≤ k∧(k:Int) < es.length:=by omega
    obtain ⟨b',off,rfl,hcs⟩:=ed_at' (HO3.out.fut REd.stays hF.out).rep hlt
    have hsn:=Lib.hid (show (es.take (k + 1)).foldl stepR (n,false) = stepR (n1,r1) es[k] by rw [List.take_succ_eq_append_getElem hlt,List.foldl_append,hS.out];rfl)
    have hsz:=HO.out _ (List.getElem_mem hlt)
    have hN9:=HN.out
    obtain ⟨y,hyk⟩:∃ y,es[k] = y:=⟨_,rfl⟩
    rw [hyk] at hcs hsn hsz
    clear hyk
    obtain ⟨w4,hw4⟩:∃ W,wr.alloc (.cells [.string y.f,.string y.t,.int .i8 y.k,.int .i64 y.r].toArray 129) = W:=⟨_,rfl⟩
    have f1:Fut wr w4:=by rw [← hw4];exact Fut.alloc _ _
    have hrb:w4.heap[wr.heap.size]? = some (.cells #[.string y.f,.string y.t,.int .i8 y.k,.int .i64 y.r] 129 (0,0)):=by rw [← hw4];exact heap_alloc_new wr _
    have q0:=cell_at hrb 0 (.string y.f) rfl
    have q1:=cell_at hrb 1 (.string y.t) rfl
    have q2:=cell_at hrb 2 (.int .i8 y.k) rfl
    have q3:=cell_at hrb 3 (.int .i64 y.r) rfl
    have hm4:=hMm.out.fut f1
    have l1:(Instr.lookup tVq (.map (some mbl)) (.string y.f) false).run Tryz.prog w4 = .ok (.int .i32 (lk0 n1 y.f:Nat)) w4:=(look_q hm4 HOk.out.nm hsz.1).2
    have l2:(Instr.lookup tVq (.map (some mbl)) (.string y.t) false).run Tryz.prog w4 = .ok (.int .i32 (lk0 n1 y.t:Nat)) w4:=(look_q hm4 HOk.out.nm hsz.2).2
    have p9:=lk0_le HOk.out.le y.f
    have q9:=lk0_le HOk.out.le y.t
    have hone:∀ v ∈ ([.string y.f,.string y.t,.int .i8 y.k,.int .i64 y.r]:List Value),v.oneCell' = true:=fun v hv => by
     simp only [List.mem_cons,List.not_mem_nil,or_false] at hv
     rcases hv with rfl | rfl | rfl | rfl <;> rfl
    have hw4h:=Lib.hid hw4
    have hcs9:=Lib.hid hcs
    have FN:=Lib.hid (hF.out.trans f1)
    have HM4:=Lib.hid hm4
    have hset:=Lib.hid (fun v => set_q hm4 HOk.out.nm hsz.1 v)
    have fin:∀ v w5,MapE strV w5 mbl (encQ (setN n1 y.f v))→w4.grownBy w5 (some mbl)→Hid (Fut wb w5)∧Hid (MapE strV w5 mbl (encQ (setN n1 y.f v,true).1)):=fun v w5 h1 h2 => ⟨Lib.hid (FN.out.grown h2 fun k hk => by injection hk with hk;rw [← hk];exact HB.out),Lib.hid h1⟩
    have HFin:=Lib.hid fin
    clear hw4 f1 hrb hcs hsz hm4 fin
    unfold stepR Ed.wants Ed.strict at hsn
    dsimp only at hsn
    generalize lk0 n1 y.f = pf at *
    generalize lk0 n1 y.t = pt at *
    by_cases e1:y.k = 1
    ·rw [e1] at hsn
     have hsn1:(if (!decide ((1:Int) = 1)) = true then pt + 1 else pt) = pt:=rfl
     rw [hsn1] at hsn
     have e2:(y.k == 1) = true:=by rw [e1];rfl
     have e3:(y.k != 1) = false:=by rw [e1];rfl
     by_cases e4:pf < pt
     ·rw [if_pos e4] at hsn
      have e5:(pf:Int) < (pt:Int):=by omega
      obtain ⟨w5,hr5,h6,h7⟩:=hset.out pt
      obtain ⟨HF5,HM5⟩:=HFin.out pt w5 h6 h7
      clear h6 h7 hset
      go_wp2_with (first | (refine wpList_rangeBox [.string y.f,.string y.t,.int .i8 y.k,.int .i64 y.r] rfl rfl rfl rfl rfl rfl rfl hcs9.out Tryz.underlying129 infoEdZ' rfl hone rfl rfl hw4h.out ?_))
      go_roundw
      case rel => exact ⟨k + 1,(_,true),by omega,by go_num,rfl,hsn,HF5,HM5⟩
      case measure => simp [intOf] <;> omega
     ·rw [if_neg e4] at hsn
      have e5:¬ (pf:Int) < (pt:Int):=by omega
      go_wp2_with (first | (refine wpList_rangeBox [.string y.f,.string y.t,.int .i8 y.k,.int .i64 y.r] rfl rfl rfl rfl rfl rfl rfl hcs9.out Tryz.underlying129 infoEdZ' rfl hone rfl rfl hw4h.out ?_))
      go_roundw
      case rel => exact ⟨k + 1,(n1,r1),by omega,by go_num,rfl,hsn,FN,HM4⟩
      case measure => simp [intOf] <;> omega
    ·have e2:(y.k == 1) = false:=by rw [beq_eq_false_iff_ne];exact e1
     have e3:(y.k != 1) = true:=by simp [bne,e2]
     rw [decide_eq_false e1] at hsn
     have hsn1:(if (!false) = true then pt + 1 else pt) = pt + 1:=rfl
     rw [hsn1] at hsn
     have ew:IntKind.i32.wrap ((pt:Int) + 1) = (pt:Int) + 1:=by
      unfold IntKind.wrap;simp [IntKind.bits,IntKind.signed];omega
     by_cases e4:pf < pt + 1
     ·rw [if_pos e4] at hsn
      have e5:(pf:Int) < (pt:Int) + 1:=by omega
      have e6:(pf:Int) ≤ (pt:Int):=by omega
      have e7:pf ≤ pt:=by omega
      obtain ⟨w5,hr5,h6,h7⟩:=hset.out (pt + 1)
      rw [show ((pt + 1:Nat):Int) = (pt:Int) + 1 from by omega] at hr5
      obtain ⟨HF5,HM5⟩:=HFin.out (pt + 1) w5 h6 h7
      clear h6 h7 hset
      go_wp2_with (first | (refine wpList_rangeBox [.string y.f,.string y.t,.int .i8 y.k,.int .i64 y.r] rfl rfl rfl rfl rfl rfl rfl hcs9.out Tryz.underlying129 infoEdZ' rfl hone rfl rfl hw4h.out ?_))
      go_roundw
      case rel => exact ⟨k + 1,(_,true),by omega,by go_num,rfl,hsn,HF5,HM5⟩
      case measure => simp [intOf] <;> omega
     ·rw [if_neg e4] at hsn
      have e5:¬ (pf:Int) < (pt:Int) + 1:=by omega
      have e6:¬ (pf:Int) ≤ (pt:Int):=by omega
      have e7:¬ pf ≤ pt:=by omega
      go_wp2_with (first | (refine wpList_rangeBox [.string y.f,.string y.t,.int .i8 y.k,.int .i64 y.r] rfl rfl rfl rfl rfl rfl rfl hcs9.out Tryz.underlying129 infoEdZ' rfl hone rfl rfl hw4h.out ?_))
      go_roundw
      case rel => exact ⟨k + 1,(n1,r1),by omega,by go_num,rfl,hsn,FN,HM4⟩
      case measure => simp [intOf] <;> omega
   ·obtain rfl:k = es.length:=by omega
    rw [List.take_length] at hS
    have hrr:roundR es n = (n1,r1):=hS.out
    have hx1:=HR1.out
    have hx2:=HR2.out
    rw [hrr] at hx1 hx2
    cases r1
    ·obtain rfl:n1 = nf:=hx2 rfl
     have HNm:=Lib.hid (names_any wr (HG.out.fut hF.out) hGl'.out)
     have hGz:=HG.out.sizes
     have FWr:=Lib.hid (F0b.out.trans hF.out)
     have hMm2:=Lib.hid hMm.out
     have HNam:=Lib.hid HOk.out.nm
     clear hS hrr hx1 hx2 HR1 HR2 HK HOk hlt hk hel3 HO3 HG
     go_wp2_with fail
     refine HNm.out.mono ?_
     rintro e w6 ⟨vn,rfl,hvn,f6⟩
     have hGs:=Lib.hid (show ∀ x ∈ G.sorted,x.size ≤ 140737488351232 from fun x hx => hGz x (((sortU_spec totS _).2 x).1 hx))
     obtain ⟨Nl,hNl⟩:∃ x,G.sorted = x:=⟨_,rfl⟩
     have hlen:Nl.length ≤ 100000000:=by
      rw [← hNl]
      exact Nat.le_trans (gsorted_len G) hGl'.out
     rw [hNl] at hvn hGs
     obtain ⟨Av,cv,rfl,hvl,hvc⟩:=hvn.rep.form
     have hns:=Lib.hid hvn
     have hNl':=Lib.hid hNl
     have F6:=Lib.hid (FWr.out.trans f6)
     have M6:=Lib.hid (hMm2.out.fut f6)
     have hvl0:Nl.length ≤ 9223372036854775807:=by omega
     have HL:=Lib.hid hlen
     have hzW:=Lib.hid FWr.out.size
     clear hvn hNl hGz f6 hvl hvc HNm hlen
     go_wp2_with fail
     go_loopw [16,92] (fun u i wq => ∃ k:Nat,k ≤ Nl.length∧i = .int .i64 k∧Hid (OwnL 2 w6.heap.size tLev RLv wq u ((Nl.take k).map fun s => (s,lk0 n1 s)))∧Hid (Fut w6 wq)) (fun _ i _ => Nl.length - (intOf i).toNat)
     case atStart => exact ⟨0,Nat.zero_le _,rfl,Lib.hid OwnL.nil,Lib.hid (Fut.refl _)⟩
     case round =>
      obtain ⟨k,hk,rfl,hI,hF6⟩:=hrel
      obtain ⟨wq,rfl⟩:∃ x,x = wr:=⟨_,rfl⟩
      by_cases hlt:k < Nl.length
      ·have hltI:(k:Int) < Nl.length:=by omega
       have e0:(0:Int) ≤ k∧(k:Int) < Nl.length:=by omega
       obtain ⟨b',off,rfl,z0⟩:=nm_at (hns.out.fut (fun _ _ _ _ _ h => h) hF6.out).rep hlt
       have hnx:=Lib.hid (show (Nl.take (k + 1)).map (fun s => (s,lk0 n1 s)) = (Nl.take k).map (fun s => (s,lk0 n1 s)) ++ [(Nl[k],lk0 n1 Nl[k])] by rw [List.take_succ_eq_append_getElem hlt,List.map_append];rfl)
       have htz:=hGs.out _ (List.getElem_mem hlt)
       generalize Nl[k] = t at *
       have l1:=(look_q (M6.out.fut hF6.out) HNam.out htz).2
       have hB9:w6.heap.size ≤ wq.heap.size:=hF6.out.size
       have hl8:((Nl.take k).map (fun s => (s,lk0 n1 s))).length ≤ 100000000:=by rw [List.length_map,List.length_take];have:=HL.out;omega
       have hnq:lk0 n1 t = (lkN n1 t).getD 0:=rfl
       rw [← hnq] at l1
       clear hnq
       generalize lk0 n1 t = pt at *
       have hIo:=hI.out
       generalize ((Nl.take k).map (fun s => (s,lk0 n1 s))) = L9 at *
       obtain ⟨Ao,co,rfl,_,_⟩:=hIo.rep.form
       replace hIo:=Lib.hid hIo
       go_wp2_with (first | (at_builtin;refine wpList_append_LB (R:=RLv) (B:=w6.heap.size) (M:=1) (xs:=L9) (ys:=[(t,pt)]) (e:=tLev) (by go_simp) _ _ 68 rfl Tryz.underlying68 (.agg #[.string ⟨#[]⟩,.int .i32 0]) 24 infoLv rfl (by decide) RLv.one RLv.keeps rfl rfl (hIo.out.fut RLv.stays (Fut.alloc _ _)) (lvOne _ t pt _) ?l3 ?l4 ?b3 ?k3))
       case l3 => simp [maxLen];omega
       case l4 => simp;omega
       case b3 => simp;omega
       case k3 =>
       intro v' w' o' g' sn'
       have HO9:=Lib.hid (by rw [← hnx.out] at o';exact o')
       have HF9:=Lib.hid ((hF6.out.trans (Fut.alloc wq _)).grown g' fun k hk => (hIo.out.block k hk).1)
       clear o' g' sn'
       go_wp2
       go_roundw
       case rel => exact ⟨k + 1,by omega,by go_num,HO9,HF9⟩
       case measure => simp [intOf] <;> omega
      ·obtain rfl:k = Nl.length:=by omega
       rw [List.take_length] at hI
       obtain ⟨Ao,co,rfl,hol,_⟩:=hI.out.rep.form
       have HFin:=Lib.hid (show OwnL 2 w.heap.size tLev RLv wq (.slice Ao ((Nl.map fun s => (s,lk0 n1 s))).length co) (Nl.map fun s => (s,lk0 n1 s))∧Fut w wq from ⟨hI.out.base F6.out.size,F6.out.trans hF6.out⟩)
       have hNl2:=hNl'.out
       clear hI hF6 hol F6 M6 HNam hGs hns hNl' HL hzW hvl0
       generalize ((Nl.map fun s => (s,lk0 n1 s))).length = ln at *
       go_wp2
       (try rw [Exit.noGoto_ret])
       (try simp only [Exit.inBlock,Exit.then])
       (try rw [Exit.noGoto_ret])
       simp only [Exit.jump]
       refine bodyPost_ret (v:=.tuple #[.slice Ao ln co,.int .i64 0,.int .i64 0]) (by simp [results,Tryz.results74,go_sem]) rfl ?_
       rw [hNl2]
       exact ⟨_,rfl,HFin.out.1,HFin.out.2⟩
    ·obtain ⟨m'',rfl,hb9,-⟩:=raise_ok (hx1 rfl)
     have HJ:∀ a,(∃ (z0 z1 z2 z3 z4 z7 z8 z9 z10 z12 z13 z14 z15 z16 z17 z18 z19 z20 z21 z22 z23 z24 z25 z26 z27 z28 z29 z30 z31 z32 z33 z34 z35 z36 z37 z38 z39 z40 z41 z42 z43 z44 z45 z46 z47 z48 z49 z50 z51 z52 z53 z54 z55 z56 z57 z58 z59 z60 z61 z62 z63 z64 z65 z66 z67 z68 z69 z70 z71 z72 z73 z74 z75 z76 z77 z78 z79 z80 z81 z82 z83 z84 z85 z86 z87 z88 z89 z90 z91 z92 z93 z94 z95 z96 z97 z98 z99 z100 z101 z102 z103 z104 z105:Value),a = (⟨#[z0,z1,z2,z3,z4,.slice Ae es.length ce,.map (some mb),z7,z8,z9,z10,.map (some mbl),z12,z13,z14,z15,z16,z17,z18,z19,z20,z21,z22,z23,z24,z25,z26,z27,z28,z29,z30,z31,z32,z33,z34,z35,z36,z37,z38,z39,z40,z41,z42,z43,z44,z45,z46,z47,z48,z49,z50,z51,z52,z53,z54,z55,z56,z57,z58,z59,z60,z61,z62,z63,z64,z65,z66,z67,z68,z69,z70,z71,z72,z73,z74,z75,z76,z77,z78,z79,z80,z81,z82,z83,z84,z85,z86,z87,z88,z89,z90,z91,z92,z93,z94,z95,z96,z97,z98,z99,z100,z101,z102,z103,z104,z105],[]⟩:Act))→LevJ w es G nf (m'' + 1) a wr:=fun a ha => ⟨Ae,ce,mb,mbl,n1,wb,F0b,HO3,HG,HB,hF,hMm,Lib.hid ⟨HOk.out.nm,hb9⟩,Lib.hid (hx1 rfl),ha⟩
     have HJ9:=Lib.hid HJ
     clear hS hrr hx1 hx2 HR1 HR2 HK HOk hlt hk hel3 HJ hb9
     go_wp2_with fail
     go_step3
     refine ⟨rfl,lev_next (HJ9.out _ ⟨_,_,_,_,_,_,_,_,_,_,_,_,_,_,_,_,_,_,_,_,_,_,_,_,_,_,_,_,_,_,_,_,_,_,_,_,_,_,_,_,_,_,_,_,_,_,_,_,_,_,_,_,_,_,_,_,_,_,_,_,_,_,_,_,_,_,_,_,_,_,_,_,_,_,_,_,_,_,_,_,_,_,_,_,_,_,_,_,_,_,_,_,_,_,_,_,_,_,_,_,_,_,_,rfl⟩)⟩
 case first =>
  intro HP
  go_wp2_with fail
  refine wp_graph 4 [.d,.r (fun v W => OwnL 4 w.heap.size tEdge REd W v es),.d,.r (fun v W => ∃ mb,v = .map (some mb)∧GrI w.heap.size W mb G)] (by kernel_rfl) (by kernel_rfl) (by kernel_rfl) ?_
  simp only [takS,Exs]
  iterate 2 apply Exists.intro
  apply Run.valG (wanted_none rfl _)
  ·intro w1 h1 hk
   have q0:=h1.cell c0;have hg:=F0.out.trans ((Fut.drew _).trans h1);have hgs:=hg.size
   have hcw:=fun b o => Below.cell (p:=⟨b,o,none⟩) h1
   go_simp;rfl
  simp only [actS]
  apply Run.callR (wanted_none rfl _) (by intro v w w' hf hs;exact hs.fut REd.stays hf) (fun _ _ => by go_simp;exact ⟨rfl,rfl⟩)
  ·intro w1 h1 hk
   have q0:=h1.cell c0;have hg:=F0.out.trans ((Fut.drew _).trans h1);have hgs:=hg.size
   refine (HE.out _ hg).mono ?_;rintro e w' ⟨v,rfl,ho,hf⟩;exact ⟨_,rfl,hf,ho.base hgs⟩
  intro v1
  simp only [actS]
  apply Run.valG (wanted_none rfl _)
  ·intro w1 h1 hk
   have q0:=h1.cell c0;have hg:=F0.out.trans ((Fut.drew _).trans h1);have hgs:=hg.size
   have hcw:=fun b o => Below.cell (p:=⟨b,o,none⟩) h1
   go_simp;rfl
  simp only [actS]
  apply Run.callR (wanted_none rfl _) (by intro v w w' hf hs;exact (by obtain ⟨mb,g1,g2⟩:=hs;exact ⟨mb,g1,g2.fut hf⟩)) (fun _ _ => by go_simp;exact ⟨rfl,rfl⟩)
  ·intro w1 h1 hk
   have f1:=Facts.get hk 0 rfl (by kernel_rfl)
   have q0:=h1.cell c0;have hg:=F0.out.trans ((Fut.drew _).trans h1);have hgs:=hg.size
   refine (HD.out _ hg).mono ?_;rintro e w' ⟨mb,rfl,ho,hf⟩;exact ⟨_,rfl,hf,mb,rfl,gri_base ho hgs⟩
  intro v3
  simp only [actS]
  apply Run.done
  intro w2 h2 hk
  obtain ⟨f1,f3,_⟩:=hk
  obtain ⟨Ae,ce,rfl,hel1,hel2⟩:=f1.rep.form
  obtain ⟨mb,rfl,hG⟩:=f3
  have FE:=Lib.hid (F0.out.trans ((Fut.drew _).trans h2))
  have HOw:=Lib.hid f1
  have HP2:=Lib.hid (parts_any N T w2 hG hGl'.out hT'.out)
  have HG2:=Lib.hid hG
  have hel3:es.length ≤ 9223372036854775807:=by unfold maxLen at hel2;omega
  clear h2 f1 hG c0 HE HD hel1 hel2
  go_wp2_with fail
  refine HP2.out.mono ?_
  rintro e w3 ⟨imb,ov,rfl,hm,hms,ho,f3⟩
  have HM:=Lib.hid hm
  have HMS:=Lib.hid hms
  have F3:=Lib.hid (FE.out.trans f3)
  have HO3:=Lib.hid (HOw.out.fut REd.stays f3)
  have HG3:=Lib.hid (HG2.out.fut f3)
  clear hm hms ho f3 HP2 HOw HG2
  unfold blameE at hx'
  go_wp2_with fail
  go_loopw [30] (fun i wr => ∃ k:Nat,k ≤ es.length∧i = .int .i64 k∧Hid (Fut w3 wr)) (fun i _ => es.length - (intOf i).toNat)
  case atStart => exact ⟨0,Nat.zero_le _,rfl,Lib.hid (Fut.refl _)⟩
  case round =>
   obtain ⟨k,hk,rfl,hF⟩:=hrel
   by_cases hlt:k < es.length
   ·have hltI:(k:Int) < es.length:=by omega
    have e0:(0:Int) ≤ k∧(k:Int) < es.length:=by omega
    obtain ⟨b',off,rfl,hcs⟩:=ed_at' (HO3.out.fut REd.stays hF.out).rep hlt
    have hmem:=Lib.hid (List.getElem_mem hlt)
    have hsz:=HO.out _ hmem.out
    obtain ⟨y,hyk⟩:∃ y,es[k] = y:=⟨_,rfl⟩
    rw [hyk] at hcs hmem hsz
    clear hyk
    obtain ⟨w4,hw4⟩:∃ W,wr.alloc (.cells [.string y.f,.string y.t,.int .i8 y.k,.int .i64 y.r].toArray 129) = W:=⟨_,rfl⟩
    have f1:Fut wr w4:=by rw [← hw4];exact Fut.alloc _ _
    have hrb:w4.heap[wr.heap.size]? = some (.cells #[.string y.f,.string y.t,.int .i8 y.k,.int .i64 y.r] 129 (0,0)):=by rw [← hw4];exact heap_alloc_new wr _
    have q0:=cell_at hrb 0 (.string y.f) rfl
    have q1:=cell_at hrb 1 (.string y.t) rfl
    have q2:=cell_at hrb 2 (.int .i8 y.k) rfl
    have q3:=cell_at hrb 3 (.int .i64 y.r) rfl
    have hm4:=HM.out.fut (hF.out.trans f1)
    have l1:=look0 hm4 HMS.out hsz.1
    have l2:=look0 hm4 HMS.out hsz.2
    have hone:∀ v ∈ ([.string y.f,.string y.t,.int .i8 y.k,.int .i64 y.r]:List Value),v.oneCell' = true:=fun v hv => by
     simp only [List.mem_cons,List.not_mem_nil,or_false] at hv
     rcases hv with rfl | rfl | rfl | rfl <;> rfl
    have hw4h:=Lib.hid hw4
    have hcs9:=Lib.hid hcs
    have FN:=Lib.hid (hF.out.trans f1)
    clear hw4 f1 hrb hcs hsz hm4
    by_cases e1:y.k = 1
    ·go_wp2_with (first | (refine wpList_rangeBox [.string y.f,.string y.t,.int .i8 y.k,.int .i64 y.r] rfl rfl rfl rfl rfl rfl rfl hcs9.out Tryz.underlying129 infoEdZ' rfl hone rfl rfl hw4h.out ?_))
     go_roundw
     case rel => exact ⟨k + 1,by omega,by go_num,FN⟩
     case measure => simp [intOf] <;> omega
    ·by_cases e2:lk0 T.inn y.f = lk0 T.inn y.t
     ·exfalso
      have h9:=List.find?_eq_none.1 hx'.out y hmem.out
      exact h9 (by unfold Ed.strict;rw [decide_eq_false e1,decide_eq_true e2];rfl)
     ·generalize lk0 T.inn y.f = n1 at *
      generalize lk0 T.inn y.t = n2 at *
      have e3:¬ (n1:Int) = (n2:Int):=by omega
      have e4:((n1:Int) == (n2:Int)) = false:=by rw [beq_eq_false_iff_ne];exact e3
      have e5:((n1:Int) != (n2:Int)) = true:=by simp [bne,e4]
      have e6:(n1 == n2) = false:=by rw [beq_eq_false_iff_ne];exact e2
      have e7:(n1 != n2) = true:=by simp [bne,e6]
      go_wp2_with (first | (refine wpList_rangeBox [.string y.f,.string y.t,.int .i8 y.k,.int .i64 y.r] rfl rfl rfl rfl rfl rfl rfl hcs9.out Tryz.underlying129 infoEdZ' rfl hone rfl rfl hw4h.out ?_))
      go_roundw
      case rel => exact ⟨k + 1,by omega,by go_num,FN⟩
      case measure => simp [intOf] <;> omega
   ·obtain rfl:k = es.length:=by omega
    have hmm:=@run_makeMap Tryz.prog
    go_wp2_with fail
    rename_i K hK
    go_step3
    have f9:=Fut.alloc wr (.map #[] 0)
    exact hK _ _ (HP.out _ _ ⟨f0,Ae,ce,mb,wr.heap.size,[],wr,Lib.hid (F3.out.trans hF.out),Lib.hid (HO3.out.fut REd.stays hF.out),Lib.hid (HG3.out.fut hF.out),Lib.hid (Nat.le_refl _),Lib.hid f9,Lib.hid (MapE.new (kv:=strV) wr),Lib.hid ⟨fun x hx => (by cases hx),fun x hx => (by cases hx)⟩,hf0',_,_,_,_,_,_,_,_,_,_,_,_,_,_,_,_,_,_,_,_,_,_,_,_,_,_,_,_,_,_,_,_,_,_,_,_,_,_,_,_,_,_,_,_,_,_,_,_,_,_,_,_,_,_,_,_,_,_,_,_,_,_,_,_,_,_,_,_,_,_,_,_,_,_,_,_,_,_,_,_,_,_,_,_,_,_,_,_,_,_,_,_,_,_,_,_,_,_,_,_,_,_,_,rfl⟩)
theorem lv_at {M:Nat} {w:World} {A:Option Addr} {n cap:Nat} {xs:List (ByteArray × Nat)} (h:SlRep 2 M RLv w (.slice A n cap) xs) {k:Nat} (hk:k < xs.length) :
    ∃ b off,A = some ⟨b,off,none⟩∧w.cell? ⟨b,off + k * 2,none⟩ = some (.string (xs[k]).1)∧w.cell? ⟨b,off + k * 2 + 1,none⟩ = some (.int .i32 ((xs[k]).2:Nat)):=by
 obtain ⟨A1,cap1,hv,_,_,h3⟩:=h
 obtain ⟨b,off,cs,hA,hl,hc,hr⟩:=h3 k _ (List.getElem?_eq_getElem hk)
 injection hv with hv _ _
 obtain rfl:cs = _:=hr
 exact ⟨b,off,hv.trans hA,hc 0 _ rfl,hc 1 _ rfl⟩
theorem sl_tail {α:Type} {sz M:Nat} {R:World→List Value→α→Prop} {w:World} {A:Option Addr} {n cap:Nat} {x:α} {xs:List α} (h:SlRep sz M R w (.slice A n cap) (x :: xs)) :
    ∃ b off,A = some ⟨b,off,none⟩∧n = xs.length + 1∧SlRep sz M R w (.slice (some ⟨b,off + sz,none⟩) xs.length (cap - 1)) xs:=by
 obtain ⟨A1,cap1,hv,h1,h2,h3⟩:=h
 obtain ⟨b,off,cs,hA,hl,hc,hr⟩:=h3 0 x rfl
 injection hv with e1 e2 e3
 subst e3
 rw [List.length_cons] at e2 h1
 refine ⟨b,off,e1.trans hA,e2,_,_,rfl,by omega,by omega,fun i y hy => ?_⟩
 obtain ⟨b',off',cs',hA',hl',hc',hr'⟩:=h3 (i + 1) y hy
 rw [hA] at hA'
 injection hA' with hA'
 injection hA' with e4 e5 _
 subst e4;subst e5
 refine ⟨b,off + sz,cs',rfl,hl',fun j c hj => ?_,hr'⟩
 rw [← hc' j c hj,Nat.add_mul,Nat.one_mul]
 congr 2
 omega
theorem field_prog (A:Option Addr) (n c:Nat) (W:World):(Instr.field 28 (.agg #[.slice A n c]) 0).run Tryz.prog W = .ok (.slice A n c) W:=by kernel_rfl
set_option maxHeartbeats 4000000 in
set_option maxRecDepth 100000 in
theorem lives9_any (w:World):Calls Tryz.prog 16 #[] w fun e w' => e = .returned (.bool true)∧Fut w w':=by
 have HOt:=Lib.hid other_any
 have HL:=Lib.hid (fun A W (h:SlRep 3 2199023255552 RRu W (.slice A 2 2) otherP) => levelsG_any A 2 otherP W h (by decide) live_small 10 liveT live_tarj live_len live_blame _ 5 live_raise)
 have HP:=Lib.hid (fun A W (h:SlRep 3 2199023255552 RRu W (.slice A 2 2) otherP) => partsR_any A 2 otherP W h (by decide) live_small 10 liveT live_tarj live_len live_sound live_pz _ live_parts)
 have HPl:=Lib.hid (fun A c W (h:SlRep 3 2199023255552 RRu W (.slice A 1 c) [ruY]) => plain_any A c [ruY] W h (by decide) live_smallY)
 have HOn:=Lib.hid (fun A W (h:SlRep 3 2199023255552 RRu W (.slice A 2 2) otherP) => one_any A 2 otherP W h (by decide) live_small)
 go_enter Tryz.func16,Tryz.ntmps16
 go_wp2_with fail
 refine (HOt.out _).mono ?_
 rintro e w1 ⟨A1,rfl,r1,f1⟩
 have R1:=Lib.hid r1
 have F1:=Lib.hid f1
 clear r1 f1
 go_wp2_with fail
 refine (HL.out A1 w1 R1.out).mono ?_
 rintro e w2 ⟨lv,rfl,hlv,f2⟩
 rw [live_levels] at hlv
 obtain ⟨Al,cl,rfl,hl1,hl2⟩:=hlv.rep.form
 have HLv:=Lib.hid hlv
 have F2:=Lib.hid (F1.out.trans f2)
 clear hlv f2 R1 hl1 hl2
 go_wp2_with fail
 refine (HOt.out _).mono ?_
 rintro e w3 ⟨A3,rfl,r3,f3⟩
 have R3:=Lib.hid r3
 have HL3:=Lib.hid (HLv.out.fut RLv.stays f3)
 have F3:=Lib.hid (F2.out.trans f3)
 clear r3 f3
 go_wp2_with fail
 refine (HP.out A3 w3 R3.out).mono ?_
 rintro e w4 ⟨pv,rfl,hpv,f4⟩
 obtain ⟨Ap,cp,rfl,hp1,hp2⟩:=hpv.rep.form
 have F4:=Lib.hid (F3.out.trans f4)
 have hL4:=(HL3.out.fut RLv.stays f4).rep
 obtain ⟨bl,ol,rfl,c0,c1⟩:=lv_at hL4 (k:=0) (by decide)
 obtain ⟨bl2,ol2,hA2,c2,c3⟩:=lv_at hL4 (k:=2) (by decide)
 injection hA2 with hA2
 injection hA2 with e3 e4 _
 subst e3;subst e4
 have d0:w4.cell? ⟨bl,ol,none⟩ = some (.string ⟨#[120]⟩):=c0
 have d1:w4.cell? ⟨bl,ol + 1,none⟩ = some (.int .i32 0):=c1
 have d2:w4.cell? ⟨bl,ol + 4,none⟩ = some (.string ⟨#[122]⟩):=c2
 have d3:w4.cell? ⟨bl,ol + 5,none⟩ = some (.int .i32 1):=c3
 obtain ⟨bp,op,v0,rfl,z0,hv0⟩:=ls_at hpv.rep (k:=0) (by decide)
 obtain ⟨A0,cc0,rfl,_,_⟩:=hv0.rep.form
 obtain ⟨b0,o0,rfl,z1⟩:=nm_at hv0.rep (k:=0) (by decide)
 have d4:w4.cell? ⟨bp,op,none⟩ = some (.slice (some ⟨b0,o0,none⟩) 1 cc0):=z0
 have d5:w4.cell? ⟨b0,o0,none⟩ = some (.string ⟨#[120]⟩):=z1
 clear c0 c1 c2 c3 z0 z1 hv0 hpv hL4 hp1 hp2 f4 HL3 HLv R3 HL HP
 simp only [List.length_cons,List.length_nil,Nat.zero_add,Nat.reduceAdd]
 go_wp2_with fail
 refine (HOt.out _).mono ?_
 rintro e w5 ⟨A5,rfl,r5,f5⟩
 obtain ⟨b5,o5,rfl,_,r6⟩:=sl_tail r5
 have F5:=Lib.hid (F4.out.trans f5)
 have hfp:=field_prog
 have R6:=Lib.hid r6
 clear r5 r6 f5 d0 d1 d2 d3 d4 d5
 go_wp2_with fail
 refine (HPl.out _ _ _ R6.out).mono ?_
 rintro e w6 ⟨rfl,f6⟩
 rw [live_plain]
 have F6:=Lib.hid (F5.out.trans f6)
 clear f6
 go_wp2_with fail
 refine (HOt.out _).mono ?_
 rintro e w7 ⟨A7,rfl,r7,f7⟩
 have F7:=Lib.hid (F6.out.trans f7)
 have R7:=Lib.hid r7
 clear r7 f7
 go_wp2_with fail
 refine (HOn.out _ _ R7.out).mono ?_
 rintro e w8 ⟨rfl,f8⟩
 rw [live_one]
 have F8:=F7.out.trans f8
 clear f8
 go_wp2
 go_ret
 exact ⟨rfl,F8⟩
end Go.Proofs.YtobabnpllokkaaaGreatDoor
namespace Go.Proofs.YtobabnpllokkaaaGreatDoor
open Go.RowKit
inductive Rch (G:Gr):ByteArray→ByteArray→Prop
 | refl (s:ByteArray):Rch G s s
 | step {s t u:ByteArray} (h:t ∈ sucs G s) (k:Rch G t u):Rch G s u
theorem Rch.trans {G:Gr} {s t u:ByteArray} (h:Rch G s t) (k:Rch G t u):Rch G s u:=by
 induction h with
 | refl s => exact k
 | step h _ ih => exact .step h (ih k)
theorem Rch.one {G:Gr} {s t:ByteArray} (h:t ∈ sucs G s):Rch G s t:=.step h (.refl t)
theorem Rch.closed {G:Gr} {D:ByteArray→Prop} (hD:∀ u,D u→∀ t ∈ sucs G u,D t) {s t:ByteArray} (h:Rch G s t) (hs:D s):D t:=by
 induction h with
 | refl s => exact hs
 | step h _ ih => exact ih (hD _ hs _ h)
def ixN:List ByteArray→ByteArray→Nat
 | [],_ => 0
 | x :: r,u => if x = u then 1 else ixN r u + 1
theorem ixN_in:∀ {l:List ByteArray} {u:ByteArray},u ∈ l→1 ≤ ixN l u∧ixN l u ≤ l.length
 | x :: r,u,h => by
  unfold ixN
  split
  ·rw [List.length_cons];omega
  ·rename_i hn
   rcases List.mem_cons.1 h with e | h
   ·exact absurd e.symm hn
   ·have:=ixN_in h
    rw [List.length_cons];omega
theorem ixN_app {l r:List ByteArray} {u:ByteArray} (h:u ∈ l):ixN (l ++ r) u = ixN l u:=by
 induction l with
 | nil => cases h
 | cons x l ih =>
  rw [List.cons_append]
  unfold ixN
  by_cases e:x = u
  ·rw [if_pos e,if_pos e]
  ·rw [if_neg e,if_neg e]
   rcases List.mem_cons.1 h with e2 | h
   ·exact absurd e2.symm e
   ·rw [ih h]
theorem ixN_new {l r:List ByteArray} {u:ByteArray} (h:u ∉ l):ixN (l ++ u :: r) u = l.length + 1:=by
 induction l with
 | nil => unfold ixN;simp
 | cons x l ih =>
  rw [List.cons_append]
  unfold ixN
  rw [if_neg (fun e => h (by rw [← e];exact List.mem_cons_self)),ih (fun q => h (List.mem_cons_of_mem _ q)),List.length_cons]
theorem ixN_sub {l S R:List ByteArray} (hn:l.Nodup) (hs:(S ++ R).Sublist l) {u v:ByteArray} (hu:u ∈ S) (hv:v ∈ R):ixN l u < ixN l v:=by
 induction l generalizing S with
 | nil =>
  have:=List.sublist_nil.1 hs
  have hS:S = []:=(List.append_eq_nil_iff.1 this).1
  rw [hS] at hu;cases hu
 | cons x l ih =>
  rw [List.nodup_cons] at hn
  cases S with
  | nil => cases hu
  | cons y S =>
   rw [List.cons_append] at hs
   have hin:∀ z,z ∈ l→x ≠ z:=fun z hz e => hn.1 (e ▸ hz)
   rcases List.sublist_cons_iff.1 hs with h1 | ⟨r,h1,h2⟩
   ·have hu2:u ∈ l:=h1.subset (by rw [← List.cons_append];exact List.mem_append_left _ hu)
    have hv2:v ∈ l:=h1.subset (by rw [← List.cons_append];exact List.mem_append_right _ hv)
    unfold ixN
    rw [if_neg (hin u hu2),if_neg (hin v hv2)]
    have:=ih hn.2 (S:=y :: S) (by rw [List.cons_append];exact h1) hu
    omega
   ·injection h1 with e1 e2
    subst e1;subst e2
    have hv2:v ∈ l:=h2.subset (List.mem_append_right _ hv)
    rcases List.mem_cons.1 hu with e | hu
    ·subst e
     unfold ixN
     rw [if_pos rfl,if_neg (hin v hv2)]
     have:=ixN_in hv2
     omega
    ·have hu2:u ∈ l:=h2.subset (List.mem_append_left _ hu)
     unfold ixN
     rw [if_neg (hin u hu2),if_neg (hin v hv2)]
     have:=ih hn.2 h2 hu
     omega
theorem lk_iff {l:Nums} (hn:(l.map (·.1)).Nodup) {s:ByteArray} {n:Nat}:lkN l s = some n↔(s,n) ∈ l:=by
 constructor
 ·intro h
  obtain ⟨i,hi⟩:=lkN_at hn h
  exact List.mem_of_getElem? hi
 ·intro h
  cases hq:lkN l s with
  | none => exact absurd rfl (lkN_none hq _ h)
  | some m =>
   obtain ⟨i,hi⟩:=lkN_at hn hq
   obtain ⟨j,hj⟩:=List.getElem?_of_mem h
   have e1:(l.map (·.1))[i]? = some s:=by rw [List.getElem?_map,hi];rfl
   have e2:(l.map (·.1))[j]? = some s:=by rw [List.getElem?_map,hj];rfl
   have:=List.getElem?_inj (List.getElem?_eq_some_iff.1 e1).1 hn |>.1 (e1.trans e2.symm)
   subst this
   rw [hi] at hj
   injection hj with hj
   injection hj with _ hj
   rw [hj]
theorem lk_none_iff {l:Nums} {s:ByteArray}:lkN l s = none↔s ∉ l.map (·.1):=by
 constructor
 ·intro h hm
  obtain ⟨x,hx,e⟩:=List.mem_map.1 hm
  exact lkN_none h x hx e
 ·intro h
  unfold lkN
  rw [Option.map_eq_none_iff,List.find?_eq_none]
  intro x hx
  simp only [decide_eq_true_eq]
  exact fun e => h (List.mem_map.2 ⟨x,hx,e⟩)
theorem key_one {l:Nums} (hn:(l.map (·.1)).Nodup) {s:ByteArray} {n m:Nat} (h1:(s,n) ∈ l) (h2:(s,m) ∈ l):n = m:=by
 have e1:=(lk_iff hn).2 h1
 rw [(lk_iff hn).2 h2] at e1
 exact (Option.some.inj e1).symm
theorem putN_keys (l:Nums) (s:ByteArray) (n:Nat):(putN l s n).map (·.1) = l.map (·.1):=by
 unfold putN
 rw [List.map_map]
 refine List.map_congr_left fun x _ => ?_
 simp only [Function.comp]
 split <;> rfl
theorem putN_in {l:Nums} {s u:ByteArray} {n m:Nat}:(u,m) ∈ putN l s n↔(u = s∧m = n∧∃ k,(s,k) ∈ l)∨(u ≠ s∧(u,m) ∈ l):=by
 unfold putN
 rw [List.mem_map]
 constructor
 ·rintro ⟨⟨a,b⟩,hx,e⟩
  simp only at e
  split at e
  ·rename_i ha
   injection e with e1 e2
   exact .inl ⟨by rw [← e1,ha],e2.symm,b,by rw [← ha];exact hx⟩
  ·rename_i ha
   injection e with e1 e2
   subst e1;subst e2
   exact .inr ⟨ha,hx⟩
 ·rintro (⟨rfl,rfl,k,hk⟩ | ⟨h1,h2⟩)
  ·exact ⟨_,hk,by simp⟩
  ·exact ⟨_,h2,by simp [h1]⟩
theorem idxP_new {S R:List ByteArray} {s:ByteArray} (h:s ∉ S):idxP s (S ++ s :: R) = some S.length:=by
 induction S with
 | nil => unfold idxP;simp
 | cons x S ih =>
  rw [List.cons_append]
  unfold idxP
  rw [if_neg (fun e => h (by rw [← e];exact List.mem_cons_self)),ih (fun q => h (List.mem_cons_of_mem _ q))]
  rfl
theorem nodupB_of:∀ {l:List ByteArray},l.Nodup→nodupB l = true
 | [],_ => rfl
 | x :: r,h => by
  rw [List.nodup_cons] at h
  unfold nodupB
  rw [nodupB_of h.2,Bool.and_true]
  simp [h.1]
def TS.vis (T:TS):List ByteArray:=T.low.map (·.1)
def TS.dn (T:TS):List ByteArray:=T.inn.map (·.1)
structure TInv (G:Gr) (T:TS):Prop where
 nd:T.vis.Nodup
 sub:T.stk.Sublist T.vis
 part:∀ u,u ∈ T.vis↔u ∈ T.stk∨u ∈ T.dn
 dis:∀ u ∈ T.stk,u ∉ T.dn
 nm:∀ u ∈ T.vis,u ∈ G.names
 ndI:T.dn.Nodup
 clo:∀ u ∈ T.dn,∀ t ∈ sucs G u,t ∈ T.dn
 cmp:∀ u i v j,(u,i) ∈ T.inn→(v,j) ∈ T.inn→(i = j↔Rch G u v∧Rch G v u)
 ord:∀ u i t j,(u,i) ∈ T.inn→t ∈ sucs G u→(t,j) ∈ T.inn→j ≤ i
 num:∀ x ∈ T.inn,x.2 < T.out.length
 outp:∀ (j:Nat) P,T.out[j]? = some P→P ≠ []∧Up cmpS P∧∀ u,u ∈ P↔(u,j) ∈ T.inn
 olen:T.out.length ≤ T.inn.length
 low:∀ u ∈ T.stk,∃ n v,(u,n) ∈ T.low∧v ∈ T.stk∧ixN T.vis v = n∧n ≤ ixN T.vis u∧Rch G u v
structure TPost (G:Gr) (T0:TS) (s:ByteArray) (T:TS) (k:Nat):Prop where
 inv:TInv G T
 vis:∃ M,T.vis = T0.vis ++ s :: M
 keep:∀ x ∈ T0.low,x ∈ T.low
 inn:∀ x ∈ T0.inn,x ∈ T.inn
 kle:k ≤ T0.low.length + 1
 res:∃ R,T.stk = T0.stk ++ R∧((R = []∧k = T0.low.length + 1∧s ∈ T.dn)∨(∃ R',R = s :: R'∧k < T0.low.length + 1∧∃ v ∈ T.stk,ixN T.vis v = k∧Rch G s v)) ∧
  ∀ u ∈ R,Rch G s u∧∃ n,(u,n) ∈ T.low∧k ≤ n∧n < ixN T.vis u∧∀ t ∈ sucs G u,t ∈ T.dn∨t ∈ R∨(t ∈ T0.stk∧∀ l,(t,l) ∈ T0.low→n ≤ l)
structure TLoop (G:Gr) (T0:TS) (s:ByteArray) (ts:List ByteArray) (T:TS) (m:Nat):Prop where
 inv:TInv G T
 vis:∃ M,T.vis = T0.vis ++ s :: M
 keep:∀ x ∈ T0.low,x ∈ T.low
 inn:∀ x ∈ T0.inn,x ∈ T.inn
 mine:(s,T0.low.length + 1) ∈ T.low
 mle:m ≤ T0.low.length + 1
 wit:∃ v ∈ T.stk,ixN T.vis v = m∧Rch G s v
 res:∃ R,T.stk = T0.stk ++ s :: R∧(∀ u ∈ R,Rch G s u∧∃ n,(u,n) ∈ T.low∧m ≤ n∧n < ixN T.vis u∧∀ t ∈ sucs G u,t ∈ T.dn∨t ∈ s :: R∨(t ∈ T0.stk∧∀ l,(t,l) ∈ T0.low→n ≤ l)) ∧
  ∀ t ∈ ts,t ∈ T.dn∨t ∈ s :: R∨(t ∈ T0.stk∧∀ l,(t,l) ∈ T0.low→m ≤ l)
theorem vis_len (T:TS):T.vis.length = T.low.length:=List.length_map _
section
variable {G:Gr} {T0 T T':TS} {s t:ByteArray} {ts:List ByteArray} {m k:Nat}
theorem TInv.start (h:TInv G T) (hs:s ∉ T.vis) (hn:s ∈ G.names):TLoop G T s [] { T with low:=T.low ++ [(s,T.low.length + 1)],stk:=T.stk ++ [s] } (T.low.length + 1):=by
 have hv:TS.vis { T with low:=T.low ++ [(s,T.low.length + 1)],stk:=T.stk ++ [s] } = T.vis ++ [s]:=by unfold TS.vis;simp
 have hd:TS.dn { T with low:=T.low ++ [(s,T.low.length + 1)],stk:=T.stk ++ [s] } = T.dn:=rfl
 have hix:ixN (T.vis ++ [s]) s = T.low.length + 1:=by rw [ixN_new hs,vis_len]
 have hsd:s ∉ T.dn:=fun q => hs ((h.part s).2 (.inr q))
 refine ⟨⟨?_,?_,?_,?_,?_,h.ndI,h.clo,h.cmp,h.ord,h.num,h.outp,h.olen,?_⟩,⟨[],hv⟩,fun x hx => List.mem_append_left _ hx,fun x hx => hx,List.mem_append_right _ (by simp),Nat.le_refl _,⟨s,List.mem_append_right _ (by simp),by rw [hv,hix],.refl s⟩,[],rfl,fun u hu => (by cases hu),fun t ht => (by cases ht)⟩
 ·rw [hv,List.nodup_append]
  exact ⟨h.nd,by simp,fun a ha b hb e => hs (by rw [List.mem_singleton] at hb;rw [← hb,← e];exact ha)⟩
 ·rw [hv]
  exact List.Sublist.append h.sub (List.Sublist.refl _)
 ·intro u
  rw [hv,hd]
  show u ∈ T.vis ++ [s]↔u ∈ T.stk ++ [s]∨u ∈ T.dn
  rw [List.mem_append,List.mem_append,h.part u]
  constructor
  ·rintro ((h1 | h1) | h1)
   ·exact .inl (.inl h1)
   ·exact .inr h1
   ·exact .inl (.inr h1)
  ·rintro ((h1 | h1) | h1)
   ·exact .inl (.inl h1)
   ·exact .inr h1
   ·exact .inl (.inr h1)
 ·intro u hu
  rw [hd]
  rcases List.mem_append.1 hu with h1 | h1
  ·exact h.dis u h1
  ·rw [List.mem_singleton] at h1;rw [h1];exact hsd
 ·intro u hu
  rw [hv] at hu
  rcases List.mem_append.1 hu with h1 | h1
  ·exact h.nm u h1
  ·rw [List.mem_singleton] at h1;rw [h1];exact hn
 ·intro u hu
  rw [hv]
  rcases List.mem_append.1 hu with h1 | h1
  ·obtain ⟨n,v,a,b,c,d,e⟩:=h.low u h1
   have hu2:=(h.part u).2 (.inl h1)
   have hv2:=(h.part v).2 (.inl b)
   exact ⟨n,v,List.mem_append_left _ a,List.mem_append_left _ b,by rw [ixN_app hv2,c],by rw [ixN_app hu2];exact d,e⟩
  ·rw [List.mem_singleton] at h1
   subst h1
   exact ⟨_,u,List.mem_append_right _ (by simp),List.mem_append_right _ (by simp),hix,by rw [hix];exact Nat.le_refl _,.refl u⟩
theorem TLoop.done (h:TLoop G T0 s ts T m) (ht:t ∈ T.dn):TLoop G T0 s (ts ++ [t]) T m:=by
 obtain ⟨R,h1,h2,h3⟩:=h.res
 refine ⟨h.inv,h.vis,h.keep,h.inn,h.mine,h.mle,h.wit,R,h1,h2,fun u hu => ?_⟩
 rcases List.mem_append.1 hu with hu | hu
 ·exact h3 u hu
 ·rw [List.mem_singleton] at hu;rw [hu];exact .inl ht
theorem TLoop.back (h:TLoop G T0 s ts T m) (he:t ∈ sucs G s) {n:Nat} (hd:t ∉ T.dn) (hl:(t,n) ∈ T.low):TLoop G T0 s (ts ++ [t]) T (min m n):=by
 obtain ⟨R,h1,h2,h3⟩:=h.res
 have htv:t ∈ T.vis:=List.mem_map.2 ⟨_,hl,rfl⟩
 have hts:t ∈ T.stk:=by
  rcases (h.inv.part t).1 htv with q | q
  ·exact q
  ·exact absurd q hd
 obtain ⟨n',v,a,b,c,d,e⟩:=h.inv.low t hts
 have hnn:n' = n:=key_one h.inv.nd a hl
 subst hnn
 refine ⟨h.inv,h.vis,h.keep,h.inn,h.mine,Nat.le_trans (Nat.min_le_left _ _) h.mle,?_,R,h1,fun u hu => ?_,fun u hu => ?_⟩
 ·by_cases hmn:m ≤ n'
  ·rw [Nat.min_eq_left hmn];exact h.wit
  ·rw [Nat.min_eq_right (by omega)];exact ⟨v,b,c,.step he e⟩
 ·obtain ⟨q1,n2,q2,q3,q4,q5⟩:=h2 u hu
  exact ⟨q1,n2,q2,Nat.le_trans (Nat.min_le_left _ _) q3,q4,q5⟩
 ·rcases List.mem_append.1 hu with hu | hu
  ·rcases h3 u hu with q | q | ⟨q1,q2⟩
   ·exact .inl q
   ·exact .inr (.inl q)
   ·exact .inr (.inr ⟨q1,fun l hl => Nat.le_trans (Nat.min_le_left _ _) (q2 l hl)⟩)
  ·rw [List.mem_singleton] at hu
   subst hu
   rw [h1] at hts
   rcases List.mem_append.1 hts with q | q
   ·exact .inr (.inr ⟨q,fun l hl' => by rw [key_one h.inv.nd (h.keep _ hl') hl];exact Nat.min_le_right _ _⟩)
   ·exact .inr (.inl q)
theorem TLoop.child (h:TLoop G T0 s ts T m) (he:t ∈ sucs G s) (hp:TPost G T t T' k):TLoop G T0 s (ts ++ [t]) T' (min m k):=by
 obtain ⟨R,h1,h2,h3⟩:=h.res
 obtain ⟨Rc,c1,c2,c3⟩:=hp.res
 obtain ⟨M,hM⟩:=h.vis
 obtain ⟨Mc,hMc⟩:=hp.vis
 have hix:∀ u ∈ T.vis,ixN T'.vis u = ixN T.vis u:=fun u hu => by rw [hMc];exact ixN_app hu
 have hsv:∀ u ∈ T.stk,u ∈ T.vis:=fun u hu => (h.inv.part u).2 (.inl hu)
 have hdd:∀ u ∈ T.dn,u ∈ T'.dn:=fun u hu => by
  obtain ⟨x,hx,e⟩:=List.mem_map.1 hu
  exact List.mem_map.2 ⟨x,hp.inn x hx,e⟩
 have hS:T'.stk = T0.stk ++ s :: (R ++ Rc):=by rw [c1,h1];simp
 have hlen:T0.low.length + 1 ≤ T.low.length:=by
  have:=congrArg List.length hM
  rw [List.length_append,vis_len,vis_len,List.length_cons] at this
  omega
 refine ⟨hp.inv,⟨M ++ t :: Mc,by rw [hMc,hM];simp⟩,fun x hx => hp.keep x (h.keep x hx),fun x hx => hp.inn x (h.inn x hx),hp.keep _ h.mine,Nat.le_trans (Nat.min_le_left _ _) h.mle,?_,R ++ Rc,hS,fun u hu => ?_,fun u hu => ?_⟩
 ·by_cases hmk:m ≤ k
  ·rw [Nat.min_eq_left hmk]
   obtain ⟨v,a,b,c⟩:=h.wit
   exact ⟨v,by rw [c1];exact List.mem_append_left _ a,by rw [hix v (hsv v a),b],c⟩
  ·rw [Nat.min_eq_right (by omega)]
   rcases c2 with ⟨_,e,_⟩ | ⟨R',_,_,v,a,b,c⟩
   ·exfalso
    have:=h.mle
    omega
   ·exact ⟨v,a,b,.step he c⟩
 ·rcases List.mem_append.1 hu with hu | hu
  ·obtain ⟨q1,n2,q2,q3,q4,q5⟩:=h2 u hu
   have huv:u ∈ T.vis:=List.mem_map.2 ⟨_,q2,rfl⟩
   refine ⟨q1,n2,hp.keep _ q2,Nat.le_trans (Nat.min_le_left _ _) q3,by rw [hix u huv];exact q4,fun x hx => ?_⟩
   rcases q5 x hx with q | q | q
   ·exact .inl (hdd x q)
   ·refine .inr (.inl ?_)
    rw [List.mem_cons] at q ⊢
    rcases q with q | q
    ·exact .inl q
    ·exact .inr (List.mem_append_left _ q)
   ·exact .inr (.inr q)
  ·obtain ⟨q1,n2,q2,q3,q4,q5⟩:=c3 u hu
   refine ⟨.step he q1,n2,q2,Nat.le_trans (Nat.min_le_right _ _) q3,q4,fun x hx => ?_⟩
   rcases q5 x hx with q | q | ⟨p1,p2⟩
   ·exact .inl q
   ·exact .inr (.inl (List.mem_cons_of_mem _ (List.mem_append_right _ q)))
   ·rw [h1] at p1
    rcases List.mem_append.1 p1 with p | p
    ·exact .inr (.inr ⟨p,fun l hl => p2 l (h.keep _ hl)⟩)
    ·refine .inr (.inl ?_)
     rw [List.mem_cons] at p ⊢
     rcases p with p | p
     ·exact .inl p
     ·exact .inr (List.mem_append_left _ p)
 ·rcases List.mem_append.1 hu with hu | hu
  ·rcases h3 u hu with q | q | ⟨q1,q2⟩
   ·exact .inl (hdd u q)
   ·refine .inr (.inl ?_)
    rw [List.mem_cons] at q ⊢
    rcases q with q | q
    ·exact .inl q
    ·exact .inr (List.mem_append_left _ q)
   ·exact .inr (.inr ⟨q1,fun l hl => Nat.le_trans (Nat.min_le_left _ _) (q2 l hl)⟩)
  ·rw [List.mem_singleton] at hu
   subst hu
   rcases c2 with ⟨_,_,q⟩ | ⟨R',q,_⟩
   ·exact .inl q
   ·refine .inr (.inl (List.mem_cons_of_mem _ (List.mem_append_right _ ?_)))
    rw [q];exact List.mem_cons_self
theorem TLoop.stay (h:TLoop G T0 s ts T m) (hts:∀ t ∈ sucs G s,t ∈ ts) (hm:m < T0.low.length + 1) (hs0:s ∉ T0.vis):TPost G T0 s { T with low:=putN T.low s m } m:=by
 obtain ⟨R,h1,h2,h3⟩:=h.res
 obtain ⟨M,hM⟩:=h.vis
 have hv:TS.vis { T with low:=putN T.low s m } = T.vis:=by unfold TS.vis;exact putN_keys _ _ _
 have hsR:s ∉ R:=fun q => by
  have hn:=h.inv.sub.nodup h.inv.nd
  rw [h1,List.nodup_append] at hn
  exact (List.nodup_cons.1 hn.2.1).1 q
 have hixs:ixN T.vis s = T0.low.length + 1:=by rw [hM,ixN_new hs0,vis_len]
 obtain ⟨vw,wa,wb,wc⟩:=h.wit
 refine ⟨⟨by rw [hv];exact h.inv.nd,by rw [hv];exact h.inv.sub,fun u => by rw [hv];exact h.inv.part u,h.inv.dis,by rw [hv];exact h.inv.nm,h.inv.ndI,h.inv.clo,h.inv.cmp,h.inv.ord,h.inv.num,h.inv.outp,h.inv.olen,fun u hu => ?_⟩,⟨M,by rw [hv,hM]⟩,fun x hx => ?_,h.inn,Nat.le_of_lt hm,s :: R,h1,.inr ⟨R,rfl,hm,vw,wa,by rw [hv];exact wb,wc⟩,fun u hu => ?_⟩
 ·rw [hv]
  by_cases e:u = s
  ·subst e
   exact ⟨m,vw,putN_in.2 (.inl ⟨rfl,rfl,_,h.mine⟩),wa,wb,by rw [hixs];omega,wc⟩
  ·obtain ⟨n,v,a,b,c,d,f⟩:=h.inv.low u hu
   exact ⟨n,v,putN_in.2 (.inr ⟨e,a⟩),b,c,d,f⟩
 ·obtain ⟨u,n⟩:=x
  refine putN_in.2 (.inr ⟨fun e => hs0 ?_,h.keep _ hx⟩)
  rw [← e]
  exact List.mem_map.2 ⟨_,hx,rfl⟩
 ·rw [hv]
  have fix:∀ n:Nat,m ≤ n→∀ t,(t ∈ T.dn∨t ∈ s :: R∨(t ∈ T0.stk∧∀ l,(t,l) ∈ T0.low→n ≤ l))→t ∈ T.dn∨t ∈ s :: R∨(t ∈ T0.stk∧∀ l,(t,l) ∈ T0.low→n ≤ l):=fun _ _ _ q => q
  rcases List.mem_cons.1 hu with e | hu
  ·subst e
   exact ⟨.refl u,m,putN_in.2 (.inl ⟨rfl,rfl,_,h.mine⟩),Nat.le_refl _,by rw [hixs];exact hm,fun t ht => h3 t (hts t ht)⟩
  ·obtain ⟨q1,n2,q2,q3,q4,q5⟩:=h2 u hu
   exact ⟨q1,n2,putN_in.2 (.inr ⟨fun e => hsR (e ▸ hu),q2⟩),q3,q4,q5⟩
end
end Go.Proofs.YtobabnpllokkaaaGreatDoor
