/- Parts. -/
import Derived.Test.YtdjffkkbjbiihaaGreatDoorE14
set_option linter.unusedSimpArgs false
set_option linter.unusedVariables false
namespace Go.Proofs.YtdjffkkbjbiihaaGreatDoor
open Go.RowKit Go.WideMaps
structure Ed where
 f : ByteArray
 t : ByteArray
 k : Int
 r : Int
abbrev tEdge : TypeId := 92
abbrev tEdges : TypeId := 37
def REd (_ : World) (cs : List Value) (e : Ed) : Prop := cs = [.string e.f, .string e.t, .int .i8 e.k, .int .i64 e.r]
theorem REd.stays : Stays REd := fun _ _ _ _ _ h => h
theorem REd.keeps {e : TypeId} : Keeps e REd := fun _ _ _ _ _ h _ _ => h
theorem REd.one : ∀ (w : World) cs x, REd w cs x → ∀ u ∈ cs, u.oneCell' = true := fun w cs x h u hu => by
 obtain rfl : cs = _ := h
 simp only [List.mem_cons, List.not_mem_nil, or_false] at hu
 rcases hu with rfl | rfl | rfl | rfl <;> rfl
theorem infoEd : (Tryz.prog.info? 92).map (fun i => (i.zero, i.size, i.bytes)) = some (some (.agg #[.string ⟨#[]⟩, .string ⟨#[]⟩, .int .i8 0, .int .i64 0]), 4, 48) := by kernel_rfl
theorem infoEds : (Tryz.prog.info? 37).map (·.size) = some 1 := by kernel_rfl
theorem infoKd : (Tryz.prog.info? 90).map (·.size) = some 1 := by kernel_rfl
structure EdSt (B : Nat) (W : World) (rb kb ib ob : Nat) (p : ByteArray) (hv bv : Value) (kd i : Int) (es : List Ed) (lv : Value) : Prop where
 r : W.heap[rb]? = some (.cells #[.string p, hv, bv] 80 (0, 0))
 k : W.heap[kb]? = some (.cells #[.int .i8 kd] 90 (0, 0))
 i : W.heap[ib]? = some (.cells #[.int .i64 i] 3 (0, 0))
 o : W.heap[ob]? = some (.cells #[lv] tEdges (0, 0))
 list : OwnL 4 B tEdge REd W lv es
 low : B ≤ ob
theorem other_block {w : World} {j k : Nat} {a b : Array Value} {t u : TypeId} (h1 : w.heap[j]? = some (.cells a t (0, 0))) (h2 : w.heap[k]? = some (.cells b u (0, 0))) (hn : t ≠ u) : j ≠ k := fun e => by
 rw [e, h2] at h1
 injection h1 with h1
 injection h1 with _ h1
 exact hn h1.symm
theorem edOne (w : World) (f t : ByteArray) (k r : Int) (e : TypeId) : SlRep 4 1 REd (w.alloc (.cells #[.string f, .string t, .int .i8 k, .int .i64 r] e)) (.slice (some ⟨w.heap.size, 0, none⟩) 1 1) [⟨f, t, k, r⟩] :=
 slOne w [.string f, .string t, .int .i8 k, .int .i64 r] _ e rfl rfl
theorem edOneAt (w : World) (n : Nat) (hn : w.heap.size = n) (f t : ByteArray) (k r : Int) (e : TypeId) : SlRep 4 1 REd (w.alloc (.cells #[.string f, .string t, .int .i8 k, .int .i64 r] e)) (.slice (some ⟨n, 0, none⟩) 1 1) [⟨f, t, k, r⟩] := by
 rw [← hn]
 exact edOne w f t k r e
theorem set_block {w : World} {b j : Nat} {arr : Array Value} {t : TypeId} {v : Value} (h : w.heap[b]? = some (.cells arr t (0, 0))) : (w.setCell ⟨b, j, none⟩ v).heap[b]? = some (.cells (arr.setIfInBounds j v) t (0, 0)) := by simp [World.setCell, Array.getElem?_modify, h]
section
variable {B rb kb ib ob : Nat} {W w' : World} {p : ByteArray} {hv bv lv v' : Value} {kd i : Int} {es : List Ed} {e : Ed}
theorem EdSt.fut (h : EdSt B W rb kb ib ob p hv bv kd i es lv) (hf : Fut W w') : EdSt B w' rb kb ib ob p hv bv kd i es lv :=
 ⟨hf.block h.r, hf.block h.k, hf.block h.i, hf.block h.o, h.list.fut REd.stays hf, h.low⟩
theorem EdSt.push (h : EdSt B W rb kb ib ob p hv bv kd i es lv) (o : OwnL 4 B tEdge REd w' v' (es ++ [e])) (g : W.grownBy w' lv.ownBlock) :
  w'.cell? ⟨ob, 0, none⟩ = some lv ∧ w'.frozen? ⟨ob, 0, none⟩ = false ∧ EdSt B (w'.setCell ⟨ob, 0, none⟩ v') rb kb ib ob p hv bv kd i (es ++ [e]) v' ∧ Only (fun k => B ≤ k) W (w'.setCell ⟨ob, 0, none⟩ v') := by
 have O1 : Only (fun k => lv.ownBlock = some k) W w' := Only.grown g fun k hk => hk
 have hty := h.list.typed
 have sep : ∀ {j : Nat} {a : Array Value} {t : TypeId}, W.heap[j]? = some (.cells a t (0, 0)) → t ≠ tEdge → ¬ lv.ownBlock = some j := fun hj hn e => by
  obtain ⟨arr, h9⟩ := hty _ e
  exact other_block hj h9 hn rfl
 have r1 := O1.keeps h.r (sep h.r (by decide))
 have k1 := O1.keeps h.k (sep h.k (by decide))
 have i1 := O1.keeps h.i (sep h.i (by decide))
 have o1 := O1.keeps h.o (sep h.o (by decide))
 have O2 : Only (fun k => k = ob) w' (w'.setCell ⟨ob, 0, none⟩ v') := Only.set _ _ rfl
 have o2 : (w'.setCell ⟨ob, 0, none⟩ v').heap[ob]? = some (.cells #[v'] tEdges (0, 0)) := by simp [World.setCell, Array.getElem?_modify, o1]
 refine ⟨cell_at o1 0 _ rfl, free_at o1 0, ⟨O2.keeps r1 (other_block r1 o1 (by decide)), O2.keeps k1 (other_block k1 o1 (by decide)), O2.keeps i1 (other_block i1 o1 (by decide)), o2, o.only (fun _ _ h => h) O2 fun k hk e => ?_, h.low⟩, (O1.mono fun k _ hk => (h.list.block k hk).1).trans (O2.mono fun k _ hk => by rw [hk]; exact h.low)⟩
 obtain ⟨arr, h9⟩ := o.typed k hk
 exact other_block h9 o1 (by decide) e
end
set_option maxHeartbeats 4000000 in
set_option maxRecDepth 100000 in
theorem edge1_any {B rb kb ib ob : Nat} {p : ByteArray} {hv bv lv : Value} {kd i : Int} {es : List Ed} (z : Lt) (A : Option Addr) (c : Nat) (Al : Option Addr) (l cl : Nat) (Ad : Option Addr) (d cd : Nat) (w : World) (h : EdSt B w rb kb ib ob p hv bv kd i es lv) (hB : B ≤ w.heap.size) (hes : es.length ≤ 1000000000) :
  Calls Tryz.prog 35 #[.agg (z.cs (.slice A z.a.length c) (.slice Al l cl) (.slice Ad d cd)).toArray, .pointer (some ⟨rb, 0, none⟩), .pointer (some ⟨kb, 0, none⟩), .pointer (some ⟨ib, 0, none⟩), .pointer (some ⟨ob, 0, none⟩)] w fun e w' => (∃ u, e = .returned u) ∧ (∃ lv', EdSt B w' rb kb ib ob p hv bv kd i (es ++ [⟨p, z.p, if z.k = 2 then 2 else kd, i⟩]) lv') ∧ Only (fun k => B ≤ k) w w' := by
 have hbx := heap_alloc_new w (.cells (z.cs (.slice A z.a.length c) (.slice Al l cl) (.slice Ad d cd)).toArray 119)
 have k0 := cell_at hbx 0 (.int .i8 z.k) rfl
 have k1 := cell_at hbx 1 (.string z.p) rfl
 generalize hcs : z.cs (.slice A z.a.length c) (.slice Al l cl) (.slice Ad d cd) = cs at *
 clear hcs hbx
 have f0 := Fut.alloc w (.cells cs.toArray 119)
 have g1 := h.fut f0
 have x0 := cell_at g1.r 0 (.string p) rfl
 have x1 := cell_at g1.k 0 (.int .i8 kd) rfl
 have x2 := cell_at g1.i 0 (.int .i64 i) rfl
 have f1 := Fut.alloc (w.alloc (.cells cs.toArray 119)) (.cells #[.string p, .string z.p, .int .i8 kd, .int .i64 i] tEdge)
 have hs1 : (w.alloc (.cells cs.toArray 119)).heap.size = w.heap.size + 1 := by simp
 have hbe := heap_alloc_new (w.alloc (.cells cs.toArray 119)) (.cells #[.string p, .string z.p, .int .i8 kd, .int .i64 i] tEdge)
 rw [hs1] at hbe
 have g2 := g1.fut f1
 have m0 := f1.cell k0
 have e0 := cell_at hbe 0 (.string p) rfl
 have e1 := cell_at hbe 1 (.string z.p) rfl
 have e2 := cell_at hbe 2 (.int .i8 kd) rfl
 have e3 := cell_at hbe 3 (.int .i64 i) rfl
 have ef := free_at hbe 2
 have y0 := cell_at g2.o 0 lv rfl
 have F2 := Lib.hid (f0.trans f1)
 have hz2 : ((w.alloc (.cells cs.toArray 119)).alloc (.cells #[.string p, .string z.p, .int .i8 kd, .int .i64 i] tEdge)).heap.size = w.heap.size + 2 := by simp
 replace hbe := Lib.hid hbe
 replace g2 := Lib.hid g2
 have hlv : ∀ k, lv.ownBlock = some k → ¬ k = w.heap.size + 1 := fun k hk => by
  have := (h.list.block k hk).2
  omega
 clear f0 f1 g1 h
 by_cases hk : z.k = 2
 ·rw [if_pos hk]
  obtain ⟨w3, hw3⟩ : ∃ W, ((w.alloc (.cells cs.toArray 119)).alloc (.cells #[.string p, .string z.p, .int .i8 kd, .int .i64 i] tEdge)).setCell ⟨w.heap.size + 1, 2, none⟩ (.int .i8 2) = W := ⟨_, rfl⟩
  have O2 : Only (fun k => k = w.heap.size + 1) ((w.alloc (.cells cs.toArray 119)).alloc (.cells #[.string p, .string z.p, .int .i8 kd, .int .i64 i] tEdge)) w3 := by rw [← hw3]; exact Only.set _ _ rfl
  have hb3 : w3.heap[w.heap.size + 1]? = some (.cells #[.string p, .string z.p, .int .i8 2, .int .i64 i] tEdge (0, 0)) := by rw [← hw3]; exact set_block hbe.out
  have q0 := cell_at hb3 0 (.string p) rfl
  have q1 := cell_at hb3 1 (.string z.p) rfl
  have q2 := cell_at hb3 2 (.int .i8 2) rfl
  have q3 := cell_at hb3 3 (.int .i64 i) rfl
  have g3 : EdSt B w3 rb kb ib ob p hv bv kd i es lv := by
   have g := g2.out
   have hb := hbe.out
   exact ⟨O2.keeps g.r (other_block g.r hb (by decide)), O2.keeps g.k (other_block g.k hb (by decide)), O2.keeps g.i (other_block g.i hb (by decide)), O2.keeps g.o (other_block g.o hb (by decide)), g.list.only (fun _ _ h => h) O2 fun k hk e => hlv k hk e, g.low⟩
  have y3 := cell_at g3.o 0 lv rfl
  have hz3 := O2.size
  rw [hz2] at hz3
  have hi3 := infoKd
  clear hb3
  go_enter Tryz.func35, Tryz.ntmps35
  go_wp2_with (first | (refine wpList_store_1 (wanted_none rfl _) _ _ rfl rfl rfl hi3 rfl e2 ef hw3 ?_) | (at_builtin; refine wpList_append_LB (R := REd) (B := B) (M := 1) (xs := es) (ys := [⟨p, z.p, 2, i⟩]) (e := 92) (by go_simp) _ _ tEdges rfl Tryz.underlying37 (.agg #[.string ⟨#[]⟩, .string ⟨#[]⟩, .int .i8 0, .int .i64 0]) 48 infoEd rfl (by decide) REd.one REd.keeps rfl rfl (g3.list.fut REd.stays (Fut.alloc _ _)) (edOne _ p z.p 2 i _) ?l3 ?l4 ?b3 ?k3))
  case l3 => simp [maxLen]; omega
  case l4 => simp; omega
  case b3 => simp; omega
  case k3 =>
  intro v' w' o' g' sn'
  obtain ⟨c0, c1, hE, hO⟩ := (g3.fut (Fut.alloc w3 _)).push o' g'
  obtain ⟨A8, c8, rfl, _, _⟩ := o'.rep.form
  rw [List.length_append, List.length_singleton] at hE hO ⊢
  obtain ⟨w5, hw5⟩ : ∃ W, w'.setCell ⟨ob, 0, none⟩ (.slice A8 (es.length + 1) c8) = W := ⟨_, rfl⟩
  rw [hw5] at hE hO
  have HO := Lib.hid (show Only (fun k => B ≤ k) w w5 from (((Only.fut F2.out).trans (O2.mono fun k _ hk => by omega)).trans (Only.fut (Fut.alloc _ _))).trans hO)
  replace hE := Lib.hid hE
  have hi2 := infoEds
  clear o' g' sn' hO
  go_wp2_with (first | (refine wpList_store_1 (wanted_none rfl _) _ _ rfl rfl rfl hi2 rfl c0 c1 hw5 ?_))
  clear hw5 c0 c1
  go_wp2
  go_end0
  exact ⟨⟨_, rfl⟩, ⟨_, hE.out⟩, HO.out⟩
 ·rw [if_neg hk]
  have hk2 : (z.k == 2) = false := by rw [beq_eq_false_iff_ne]; exact hk
  go_enter Tryz.func35, Tryz.ntmps35
  go_wp2_with (first | (at_builtin; refine wpList_append_LB (R := REd) (B := B) (M := 1) (xs := es) (ys := [⟨p, z.p, kd, i⟩]) (e := 92) (by go_simp) _ _ tEdges rfl Tryz.underlying37 (.agg #[.string ⟨#[]⟩, .string ⟨#[]⟩, .int .i8 0, .int .i64 0]) 48 infoEd rfl (by decide) REd.one REd.keeps rfl rfl (g2.out.list.fut REd.stays (Fut.alloc _ _)) (edOneAt _ _ hz2 p z.p kd i _) ?l3 ?l4 ?b3 ?k3))
  case l3 => simp [maxLen]; omega
  case l4 => simp; omega
  case b3 => simp; omega
  case k3 =>
  intro v' w' o' g' sn'
  obtain ⟨c0, c1, hE, hO⟩ := (g2.out.fut (Fut.alloc ((w.alloc (.cells cs.toArray 119)).alloc (.cells #[.string p, .string z.p, .int .i8 kd, .int .i64 i] tEdge)) _)).push o' g'
  obtain ⟨A8, c8, rfl, _, _⟩ := o'.rep.form
  rw [List.length_append, List.length_singleton] at hE hO ⊢
  obtain ⟨w5, hw5⟩ : ∃ W, w'.setCell ⟨ob, 0, none⟩ (.slice A8 (es.length + 1) c8) = W := ⟨_, rfl⟩
  rw [hw5] at hE hO
  have HO := Lib.hid (show Only (fun k => B ≤ k) w w5 from ((Only.fut F2.out).trans (Only.fut (Fut.alloc _ _))).trans hO)
  replace hE := Lib.hid hE
  have hi2 := infoEds
  clear o' g' sn' hO
  go_wp2_with (first | (refine wpList_store_1 (wanted_none rfl _) _ _ rfl rfl rfl hi2 rfl c0 c1 hw5 ?_))
  clear hw5 c0 c1
  go_wp2
  go_end0
  exact ⟨⟨_, rfl⟩, ⟨_, hE.out⟩, HO.out⟩
end Go.Proofs.YtdjffkkbjbiihaaGreatDoor
namespace Go.Proofs.YtdjffkkbjbiihaaGreatDoor
open Go.RowKit Go.WideMaps Go.Maps
theorem LtC.rlt {w : World} {x : Lt} {A : Option Addr} {n c : Nat} {A1 : Option Addr} {n1 c1 : Nat} {A2 : Option Addr} {n2 c2 : Nat} (h : LtC w x (.slice A n c) (.slice A1 n1 c1) (.slice A2 n2 c2)) : RLt w (x.cs (.slice A n c) (.slice A1 n1 c1) (.slice A2 n2 c2)) x :=
 ⟨_, x.l.cs (.slice A1 n1 c1), x.d.cs (.slice A2 n2 c2), rfl, rfl, rfl, h.kw, h.rw', h.pw, h.args, h.left, h.right⟩
theorem filt_vs : ∀ (l : List Lt) (p : Lt → Bool), ((l.filter p).flatMap Lt.vs).length ≤ (l.flatMap Lt.vs).length
 | [], p => by simp
 | x :: r, p => by
  have h1 := filt_vs r p
  rw [List.filter_cons]
  split
  ·rw [List.flatMap_cons, List.flatMap_cons, List.length_append, List.length_append]; omega
  ·rw [List.flatMap_cons, List.length_append]; omega
def isP (x : Lt) : Bool := decide (x.k = 1)
set_option maxHeartbeats 4000000 in
set_option maxRecDepth 100000 in
theorem makes_any (x : Ru) (Ah Ab : Option Addr) (ch cb : Nat) (w : World) (hp : x.p.size ≤ 140737488351232) (h1 : SlRep 5 2513169434916 RAr w (.slice Ah x.h.length ch) x.h) (h2 : SlRep 16 651562446089 RLt w (.slice Ab x.b.length cb) x.b) (hl : x.hs.length + x.bs.length ≤ 400000000) :
  Calls Tryz.prog 33 #[.agg #[.string x.p, .slice Ah x.h.length ch, .slice Ab x.b.length cb]] w fun e w' => e = .returned (.bool x.makes) ∧ Fut w w' := by
 have HR := Lib.hid (fun W (hW : Fut w W) => rule_any x Ah Ab ch cb W hp (h1.fut RAr.stays hW) (h2.fut RLt.stays hW) hl)
 have HV := Lib.hid (fun W (hW : Fut w W) => ruleVars_any ⟨⟨#[]⟩, x.h, []⟩ Ah none ch 0 W (h1.fut RAr.stays hW) SlRep.nil (by
  have h9 : (Ru.hs ⟨⟨#[]⟩, x.h, []⟩).length = x.hs.length := rfl
  have h8 : (Ru.bs ⟨⟨#[]⟩, x.h, []⟩).length = 0 := rfl
  omega))
 have hve : (Ru.vars ⟨⟨#[]⟩, x.h, []⟩) = ddVs x.hs := by
  show ddVs (x.hs ++ []) = _
  rw [List.append_nil]
 rw [hve] at HV
 have hbs := b_le_bs x.b
 have hbl : x.b.length ≤ 400000000 := by unfold Ru.bs at hl; omega
 have hbv := Lib.hid (show (x.b.flatMap Lt.vs).length ≤ 400000000 by unfold Ru.bs at hl; omega)
 have HO := Lib.hid (show ∀ v ∈ ddVs x.hs, v.size ≤ 140737488351232 from fun v hv => heads_ok h1 v (ddVs_mem hv))
 obtain ⟨b, hb⟩ : ∃ b, x.makes = b := ⟨_, rfl⟩
 rw [hb]
 unfold Ru.makes Ru.posB at hb
 obtain ⟨hv9, hhv⟩ : ∃ v, ddVs x.hs = v := ⟨_, rfl⟩
 rw [hhv] at HV HO hb
 obtain ⟨er, her⟩ : ∃ e, x.errno = e := ⟨_, rfl⟩
 rw [her] at HR hb
 have H2 := Lib.hid h2
 clear h1 h2 hl hbs hve hhv her
 obtain ⟨p, xh, xb⟩ := x
 dsimp only at *
 generalize xh.length = n at *
 have hbx := heap_alloc_new w (.cells #[.string p, .slice Ah n ch, .slice Ab xb.length cb] 80)
 have f0 := Fut.alloc w (.cells #[.string p, .slice Ah n ch, .slice Ab xb.length cb] 80)
 by_cases he : er = 0
 rotate_left
 ·obtain rfl : b = false := by rw [← hb]; simp [he]
  clear hb
  go_enter Tryz.func33, Tryz.ntmps33
  go_wp2_with fail
  refine (HR.out _ f0).mono ?_
  rintro e w1 ⟨rfl, f1⟩
  go_wp2
  go_ret
  exact ⟨rfl, f0.trans f1⟩
 subst he
 replace hb := Lib.hid (show (xb.any Lt.works && !allIn (limitsB (xb.filter isP)) hv9) = b by rw [← hb]; rfl)
 go_enter Tryz.func33, Tryz.ntmps33
 go_wp2_with fail
 refine (HR.out _ f0).mono ?_
 rintro e w1 ⟨rfl, f1⟩
 have F1 := Lib.hid (f0.trans f1)
 have c1 := cell_at (f1.block hbx) 1 (.slice Ah n ch) rfl
 have c2 := cell_at (f1.block hbx) 2 (.slice Ab xb.length cb) rfl
 have C1 := Lib.hid c1
 clear f0 f1 hbx HR
 go_wp2_with fail
 clear c1 c2
 go_loopw [3, 4, 13] (fun u ws i wr => ∃ k : Nat, k ≤ xb.length ∧ i = .int .i64 k ∧ ws = .bool ((xb.take k).any Lt.works) ∧ Hid (OwnL 16 w1.heap.size 119 (RL0 w1) wr u ((xb.take k).filter isP)) ∧ Hid (Fut w1 wr)) (fun _ _ i _ => xb.length - (intOf i).toNat)
 case atStart => exact ⟨0, Nat.zero_le _, rfl, rfl, Lib.hid OwnL.nil, Lib.hid (Fut.refl _)⟩
 case round =>
  obtain ⟨k, hk, rfl, rfl, hI, hF⟩ := hrel
  by_cases hlt : k < xb.length
  ·have hltI : (k : Int) < xb.length := by omega
   have e0 : (0 : Int) ≤ k ∧ (k : Int) < xb.length := by omega
   obtain ⟨b', off, A', c2, Al, l', cl, Ad, d', cd, rfl, hcs, _, _, g3⟩ := lt_at (H2.out.fut RLt.stays F1.out) hlt
   have hfl := Lib.hid (show (xb.take (k + 1)).filter isP = (xb.take k).filter isP ++ (if isP xb[k] = true then [xb[k]] else []) by
    rw [List.take_succ_eq_append_getElem hlt, List.filter_append]
    cases h : isP xb[k] <;> simp [h])
   have han : (xb.take (k + 1)).any Lt.works = ((xb.take k).any Lt.works || xb[k].works) := by
    rw [List.take_succ_eq_append_getElem hlt, List.any_append]
    simp
   have hfn := List.length_filter_le isP (xb.take k)
   rw [List.length_take] at hfn
   generalize xb[k] = z at *
   have hrl := Lib.hid g3.rlt
   have hcs9 := Lib.hid (fun j v hj => hF.out.cell (hcs j v hj))
   obtain ⟨G, hG⟩ : ∃ G, (xb.take k).filter isP = G := ⟨_, rfl⟩
   obtain ⟨d0, hd0⟩ : ∃ d, (xb.take k).any Lt.works = d := ⟨_, rfl⟩
   rw [hG] at hfl hI hfn
   rw [hd0] at han ⊢
   clear hG hd0 hcs g3
   obtain ⟨wb, hwb⟩ : ∃ W, W = wr.alloc (.cells (z.cs (.slice A' z.a.length c2) (.slice Al l' cl) (.slice Ad d' cd)).toArray 119) := ⟨_, rfl⟩
   have f0 : Fut wr wb := by rw [hwb]; exact Fut.alloc _ _
   have hbx : wb.heap[wr.heap.size]? = some (.cells (z.cs (.slice A' z.a.length c2) (.slice Al l' cl) (.slice Ad d' cd)).toArray 119 (0, 0)) := by rw [hwb]; exact heap_alloc_new _ _
   replace hwb := Lib.hid hwb
   have hone := Lt.cs_one z A' z.a.length c2 Al l' cl Ad d' cd
   have k0 := cell_at hbx 0 (.int .i8 z.k) rfl
   have k4 := cell_at hbx 4 (.int .i8 z.l.op) rfl
   have k10 := cell_at hbx 10 (.int .i8 z.d.op) rfl
   have hrange := Lib.hid (show ∀ j v, (z.cs (.slice A' z.a.length c2) (.slice Al l' cl) (.slice Ad d' cd))[j]? = some v → wb.cell? ⟨wr.heap.size, 0 + j, none⟩ = some v from fun j v hj => by
    rw [Nat.zero_add]
    exact cell_at hbx j v (by simpa using hj))
   have hIb := Lib.hid (hI.out.fut RL0.stays f0)
   have hFb := Lib.hid (hF.out.trans f0)
   have hBz := hFb.out.size
   clear f0 hbx hI hF
   by_cases ek : z.k = 1
   ·have hw0 : z.works = false := by unfold Lt.works; rw [ek]; rfl
    have hp0 : isP z = true := by unfold isP; rw [ek]; rfl
    rw [if_pos hp0] at hfl
    rw [hw0, Bool.or_false] at han
    obtain ⟨Au, cu, rfl, _, _⟩ := hIb.out.rep.form
    clear hw0 hp0
    replace han := Lib.hid han
    go_wp2_with (first | (refine wpList_rangeBox (z.cs (.slice A' z.a.length c2) (.slice Al l' cl) (.slice Ad d' cd)) rfl rfl rfl rfl rfl rfl rfl hcs9.out Tryz.underlying119 infoLt rfl hone rfl rfl hwb.out.symm ?_) | (refine wpList_load_mid rfl _ _ rfl _ _ rfl (z.cs (.slice A' z.a.length c2) (.slice Al l' cl) (.slice Ad d' cd)) _ hrange.out Tryz.underlying119 rfl infoLtS ?_) | (refine wpList_slice1 (cs := z.cs (.slice A' z.a.length c2) (.slice Al l' cl) (.slice Ad d' cd)) rfl _ rfl rfl Tryz.underlying78 infoLtF rfl rfl (by decide) (by decide) ?_) | (at_builtin; refine wpList_append_LB (R := RL0 w1) (B := w1.heap.size) (M := 1) (xs := G) (ys := [z]) (e := 119) (by go_simp) _ _ 78 rfl Tryz.underlying78 (.agg #[.int .i8 0, .string ⟨#[]⟩, .slice none 0 0, .int .i8 0, .int .i8 0, .string ⟨#[]⟩, .int .i8 0, .int .i64 0, .string ⟨#[]⟩, .slice none 0 0, .int .i8 0, .string ⟨#[]⟩, .int .i8 0, .int .i64 0, .string ⟨#[]⟩, .slice none 0 0]) 216 infoLtF rfl (by decide) RL0.one RL0.keeps rfl rfl (hIb.out.fut RL0.stays (Fut.alloc _ _)) (slOne _ (z.cs (.slice A' z.a.length c2) (.slice Al l' cl) (.slice Ad d' cd)) z _ rfl hrl.out) ?l3 ?l4 ?b3 ?k3))
    case l3 => simp [maxLen]; omega
    case l4 => simp; omega
    case b3 => simp; omega
    case k3 =>
    intro v' w' o' g' sn'
    have HI := Lib.hid (show OwnL 16 w1.heap.size 119 (RL0 w1) w' v' ((xb.take (k + 1)).filter isP) by rw [hfl.out]; exact o')
    have HF := Lib.hid ((hFb.out.trans (Fut.alloc _ _)).grown g' (fun k hk => (hIb.out.block k hk).1))
    clear o' g' sn'
    go_wp2
    go_roundw
    case rel => exact ⟨k + 1, by omega, by go_num, by rw [han.out], HI, HF⟩
    case measure => simp [intOf] <;> omega
   ·have hp0 : ¬ isP z = true := by unfold isP; simpa using ek
    rw [if_neg hp0, List.append_nil] at hfl
    have HI := Lib.hid (show OwnL 16 w1.heap.size 119 (RL0 w1) wb u3 ((xb.take (k + 1)).filter isP) by rw [hfl.out]; exact hIb.out)
    clear hp0
    by_cases e3 : z.k = 3
    ·cases d0
     ·by_cases el : z.l.op = 0
      ·by_cases ed : z.d.op = 0
       ·have hw0 : z.works = false := by unfold Lt.works; rw [e3, el, ed]; rfl
        rw [hw0] at han
        replace han := Lib.hid (show (xb.take (k + 1)).any Lt.works = false from han)
        clear hw0
        go_wp2_with (first | (refine wpList_rangeBox (z.cs (.slice A' z.a.length c2) (.slice Al l' cl) (.slice Ad d' cd)) rfl rfl rfl rfl rfl rfl rfl hcs9.out Tryz.underlying119 infoLt rfl hone rfl rfl hwb.out.symm ?_))
        go_roundw
        case rel => exact ⟨k + 1, by omega, by go_num, by rw [han.out], HI, hFb⟩
        case measure => simp [intOf] <;> omega
       ·have hw0 : z.works = true := by unfold Lt.works; rw [e3, el, decide_eq_false ed]; rfl
        rw [hw0] at han
        replace han := Lib.hid (show (xb.take (k + 1)).any Lt.works = true from han)
        clear hw0
        go_wp2_with (first | (refine wpList_rangeBox (z.cs (.slice A' z.a.length c2) (.slice Al l' cl) (.slice Ad d' cd)) rfl rfl rfl rfl rfl rfl rfl hcs9.out Tryz.underlying119 infoLt rfl hone rfl rfl hwb.out.symm ?_))
        go_roundw
        case rel => exact ⟨k + 1, by omega, by go_num, by rw [han.out]; simp [ed], HI, hFb⟩
        case measure => simp [intOf] <;> omega
      ·have hw0 : z.works = true := by unfold Lt.works; rw [e3, decide_eq_false el]; rfl
       rw [hw0] at han
       replace han := Lib.hid (show (xb.take (k + 1)).any Lt.works = true from han)
       clear hw0
       go_wp2_with (first | (refine wpList_rangeBox (z.cs (.slice A' z.a.length c2) (.slice Al l' cl) (.slice Ad d' cd)) rfl rfl rfl rfl rfl rfl rfl hcs9.out Tryz.underlying119 infoLt rfl hone rfl rfl hwb.out.symm ?_))
       go_roundw
       case rel => exact ⟨k + 1, by omega, by go_num, by rw [han.out], HI, hFb⟩
       case measure => simp [intOf] <;> omega
     ·replace han := Lib.hid (show (xb.take (k + 1)).any Lt.works = true from han.trans (Bool.true_or _))
      go_wp2_with (first | (refine wpList_rangeBox (z.cs (.slice A' z.a.length c2) (.slice Al l' cl) (.slice Ad d' cd)) rfl rfl rfl rfl rfl rfl rfl hcs9.out Tryz.underlying119 infoLt rfl hone rfl rfl hwb.out.symm ?_))
      go_roundw
      case rel => exact ⟨k + 1, by omega, by go_num, by rw [han.out], HI, hFb⟩
      case measure => simp [intOf] <;> omega
    ·have hw0 : z.works = false := by unfold Lt.works; rw [decide_eq_false e3]; rfl
     rw [hw0, Bool.or_false] at han
     replace han := Lib.hid han
     clear hw0
     go_wp2_with (first | (refine wpList_rangeBox (z.cs (.slice A' z.a.length c2) (.slice Al l' cl) (.slice Ad d' cd)) rfl rfl rfl rfl rfl rfl rfl hcs9.out Tryz.underlying119 infoLt rfl hone rfl rfl hwb.out.symm ?_))
     go_roundw
     case rel => exact ⟨k + 1, by omega, by go_num, by rw [han.out], HI, hFb⟩
     case measure => simp [intOf] <;> omega
  ·obtain rfl : k = xb.length := by omega
   rw [List.take_length] at hI ⊢
   have hfl := Lib.hid (List.length_filter_le isP xb)
   have hfv := Lib.hid (filt_vs xb isP)
   obtain ⟨G, hG⟩ : ∃ G, xb.filter isP = G := ⟨_, rfl⟩
   obtain ⟨d0, hd0⟩ : ∃ d, xb.any Lt.works = d := ⟨_, rfl⟩
   rw [hG] at hI hb hfl hfv
   rw [hd0] at hb ⊢
   clear hG hd0
   have k1 := hF.out.cell C1.out
   have F2 := Lib.hid (F1.out.trans hF.out)
   obtain ⟨Au, cu, rfl, _, _⟩ := hI.out.rep.form
   cases d0
   ·obtain rfl : b = false := hb.out.symm.trans (Bool.false_and _)
    go_wp2_with fail
    refine wp_graph 12 [.d, .d, .d, .d, .d, .d, .d, .d, .d, .d, .d, .d] (by kernel_rfl) (by kernel_rfl) (by kernel_rfl) ?_
    simp only [takS, Exs]
    iterate 12 apply Exists.intro
    apply Run.valG (wanted_none rfl _)
    ·intro w1 h1 hk
     have hcw := fun b o => Below.cell (p := ⟨b, o, none⟩) h1
     go_simp; rfl
    simp only [actS]
    apply Run.valG (wanted_none rfl _)
    ·intro w1 h1 hk
     have hcw := fun b o => Below.cell (p := ⟨b, o, none⟩) h1
     go_simp; rfl
    simp only [actS]
    apply Run.skip (by first | (go_simp; done) | (go_simp; exact fun h => nomatch h))
    simp only [actS]
    apply Run.skip (by first | (go_simp; done) | (go_simp; exact fun h => nomatch h))
    simp only [actS]
    apply Run.skip (by first | (go_simp; done) | (go_simp; exact fun h => nomatch h))
    simp only [actS]
    apply Run.skip (by first | (go_simp; done) | (go_simp; exact fun h => nomatch h))
    simp only [actS]
    apply Run.skip (by first | (go_simp; done) | (go_simp; exact fun h => nomatch h))
    simp only [actS]
    apply Run.skip (by first | (go_simp; done) | (go_simp; exact fun h => nomatch h))
    simp only [actS]
    apply Run.skip (by first | (go_simp; done) | (go_simp; exact fun h => nomatch h))
    simp only [actS]
    apply Run.skip (by first | (go_simp; done) | (go_simp; exact fun h => nomatch h))
    simp only [actS]
    apply Run.valG (wanted_none rfl _)
    ·intro w1 h1 hk
     have hcw := fun b o => Below.cell (p := ⟨b, o, none⟩) h1
     go_simp; rfl
    simp only [actS]
    apply Run.valG (wanted_none rfl _)
    ·intro w1 h1 hk
     have hcw := fun b o => Below.cell (p := ⟨b, o, none⟩) h1
     go_simp; rfl
    simp only [actS]
    apply Run.done
    intro w2 h2 hk
    clear hk
    have F3 := Lib.hid (F2.out.trans ((Fut.drew _).trans h2))
    clear h2
    go_wp2
    go_ret
    exact ⟨rfl, F3.out⟩
   ·have HL := Lib.hid (fun W (hW : Fut wr W) => limits_any Au cu G W (((hI.out.fut RL0.stays hW).rep.imp fun cs x hx => RLt.stays _ _ _ _ (hF.out.trans hW) hx)) (by unfold maxLen; omega) (by have := hfl.out; omega) (by have := hfv.out; have := hbv.out; omega))
    obtain ⟨a, ha⟩ : ∃ a, allIn (limitsB G) hv9 = a := ⟨_, rfl⟩
    rw [ha] at hb
    obtain rfl : b = !a := hb.out.symm.trans (Bool.true_and _)
    obtain ⟨Lx, hLx⟩ : ∃ v, limitsB G = v := ⟨_, rfl⟩
    rw [hLx] at HL ha
    go_wp2_with fail
    refine wp_graph 12 [.d, .d, .d, .r (fun v W => ∃ fb mb lv, v = .pointer (some ⟨fb, 0, none⟩) ∧ FdSt wr.heap.size W fb mb Lx lv), .d, .d, .d, .r (fun v W => Nms wr.heap.size W v hv9), .d, .d, .d, .d] (by kernel_rfl) (by kernel_rfl) (by kernel_rfl) ?_
    simp only [takS, Exs]
    iterate 10 apply Exists.intro
    apply Run.valG (wanted_none rfl _)
    ·intro w1 h1 hk
     have q1 := h1.cell k1; have hg := (Fut.drew _).trans h1; have hgw := F2.out.trans hg
     have hcw := fun b o => Below.cell (p := ⟨b, o, none⟩) h1
     go_simp; rfl
    simp only [actS]
    apply Run.valG (wanted_none rfl _)
    ·intro w1 h1 hk
     have q1 := h1.cell k1; have hg := (Fut.drew _).trans h1; have hgw := F2.out.trans hg
     have hcw := fun b o => Below.cell (p := ⟨b, o, none⟩) h1
     go_simp; rfl
    simp only [actS]
    apply Run.valG (by go_simp)
    ·intro w1 h1 hk
     have q1 := h1.cell k1; have hg := (Fut.drew _).trans h1; have hgw := F2.out.trans hg
     have hcw := fun b o => Below.cell (p := ⟨b, o, none⟩) h1
     go_simp; rfl
    simp only [actS]
    apply Run.callR (by go_simp) (by intro v w w' hf hs; exact (by obtain ⟨fb, mb, lv, g1, g2⟩ := hs; exact ⟨fb, mb, lv, g1, g2.fut hf⟩)) (fun _ _ => by go_simp; exact ⟨rfl, rfl⟩)
    ·intro w1 h1 hk
     have q1 := h1.cell k1; have hg := (Fut.drew _).trans h1; have hgw := F2.out.trans hg
     refine (HL.out _ hg).mono ?_; rintro e w' ⟨fb, mb, lv, rfl, g1, hf⟩; exact ⟨_, rfl, hf, fb, mb, lv, rfl, ⟨g1.cell, g1.list.base hg.size, g1.map, g1.sizes, Nat.le_trans hg.size g1.low.1, Nat.le_trans hg.size g1.low.2⟩⟩
    intro v3
    simp only [actS]
    apply Run.valG (by go_simp)
    ·intro w1 h1 hk
     have q1 := h1.cell k1; have hg := (Fut.drew _).trans h1; have hgw := F2.out.trans hg
     have hcw := fun b o => Below.cell (p := ⟨b, o, none⟩) h1
     go_simp; rfl
    simp only [actS]
    apply Run.valG (by go_simp)
    ·intro w1 h1 hk
     have q1 := h1.cell k1; have hg := (Fut.drew _).trans h1; have hgw := F2.out.trans hg
     have hcw := fun b o => Below.cell (p := ⟨b, o, none⟩) h1
     go_simp; rfl
    simp only [actS]
    apply Run.valG (by go_simp)
    ·intro w1 h1 hk
     have q1 := h1.cell k1; have hg := (Fut.drew _).trans h1; have hgw := F2.out.trans hg
     have hcw := fun b o => Below.cell (p := ⟨b, o, none⟩) h1
     go_simp; rfl
    simp only [actS]
    apply Run.callR (by go_simp) (by intro v w w' hf hs; exact hs.fut RNm.stays hf) (fun _ _ => by go_simp; exact ⟨rfl, rfl⟩)
    ·intro w1 h1 hk
     have f3 := Facts.get hk 0 rfl (by kernel_rfl)
     have q1 := h1.cell k1; have hg := (Fut.drew _).trans h1; have hgw := F2.out.trans hg
     refine (HV.out _ hgw).mono ?_; rintro e w' ⟨v, rfl, g1, hf⟩; exact ⟨_, rfl, hf, g1.base hg.size⟩
    intro v7
    simp only [actS]
    apply Run.call (by go_simp) (fun _ _ => by go_simp; exact ⟨rfl, rfl⟩)
    ·intro w1 h1 hk
     have f3 := Facts.get hk 0 rfl (by kernel_rfl)
     have f7 := Facts.get hk 1 rfl (by kernel_rfl)
     have q1 := h1.cell k1; have hg := (Fut.drew _).trans h1; have hgw := F2.out.trans hg
     obtain ⟨fb, mb, lv, rfl, g1⟩ := f3; obtain ⟨A, c, rfl, _, _⟩ := f7.rep.form; refine (allF_any A c hv9 _ g1 f7.rep (by unfold maxLen; omega) HO.out).mono ?_; rintro e w' ⟨rfl, rfl⟩; rw [ha]; exact ⟨rfl, Fut.refl _⟩
    simp only [actS]
    apply Run.valG (by go_simp)
    ·intro w1 h1 hk
     have q1 := h1.cell k1; have hg := (Fut.drew _).trans h1; have hgw := F2.out.trans hg
     have hcw := fun b o => Below.cell (p := ⟨b, o, none⟩) h1
     go_simp; rfl
    simp only [actS]
    apply Run.valG (wanted_none rfl _)
    ·intro w1 h1 hk
     have q1 := h1.cell k1; have hg := (Fut.drew _).trans h1; have hgw := F2.out.trans hg
     have hcw := fun b o => Below.cell (p := ⟨b, o, none⟩) h1
     go_simp; rfl
    simp only [actS]
    apply Run.valG (wanted_none rfl _)
    ·intro w1 h1 hk
     have q1 := h1.cell k1; have hg := (Fut.drew _).trans h1; have hgw := F2.out.trans hg
     have hcw := fun b o => Below.cell (p := ⟨b, o, none⟩) h1
     go_simp; rfl
    simp only [actS]
    apply Run.done
    intro w2 h2 hk
    obtain ⟨f3, f7, _⟩ := hk
    have F3 := Lib.hid (F2.out.trans ((Fut.drew _).trans h2))
    clear h2 f3 f7
    go_wp2
    go_ret
    exact ⟨rfl, F3.out⟩
end Go.Proofs.YtdjffkkbjbiihaaGreatDoor
namespace Go.Proofs.YtdjffkkbjbiihaaGreatDoor
open Go.RowKit Go.WideMaps
theorem set_under (w : World) (o p : Array Value) (t u : TypeId) (v : Value) : ((w.alloc (.cells o t)).alloc (.cells p u)).setCell ⟨w.heap.size, 0, none⟩ v = (w.alloc (.cells (o.setIfInBounds 0 v) t)).alloc (.cells p u) := by
 unfold World.setCell World.alloc
 congr 1
 refine Array.ext_getElem? fun j => ?_
 rw [Array.getElem?_modify]
 by_cases hj : j = w.heap.size
 ·subst hj
  simp [Array.getElem?_push]
 ·rw [if_neg (Ne.symm hj)]
  simp [Array.getElem?_push, hj]
theorem wpList_rangeBox2 {P : Program} {ops : Array Oper} {rest : List Oper} {o2 o3 o4 o5 o6 : Oper} {a : Act} {Q : Exit → Act → World → Prop} {w w' : World} {T tI : TypeId} {x x5 y5 x6 y6 : Operand} {b o : Nat} (cs : List Value) (vi : Value) {z zi : Value} {fs : Array Field}
  (g2 : o2.guard = none) (g3 : o3.guard = none) (g4 : o4.guard = none) (g5 : o5.guard = none) (g6 : o6.guard = none) (h2 : o2.op = .load T x) (h3 : o3.op = .alloc tI) (h4 : o4.op = .alloc T) (h5 : o5.op = .store tI x5 y5) (h6 : o6.op = .store T x6 y6) (hx : a.eval x = .pointer (some ⟨b, o, none⟩)) (hc : ∀ j v, cs[j]? = some v → w.cell? ⟨b, o + j, none⟩ = some v)
  (hu : P.underlying T = some (.struct fs)) (hi : (P.info? T).map (fun i => (i.zero, i.size)) = some (some z, cs.length)) (hz : z.cells.size = cs.length) (h1 : ∀ v ∈ cs, v.oneCell' = true)
  (hii : (P.info? tI).map (fun i => (i.zero, i.size)) = some (some zi, 1)) (hzi : zi.cells.size = 1) (hvi : vi.oneCell' = true)
  (hy5 : (((a.put o2.dst (.agg cs.toArray)).put o3.dst (.pointer (some ⟨w.heap.size, 0, none⟩))).put o4.dst (.pointer (some ⟨w.heap.size + 1, 0, none⟩))).eval y5 = vi)
  (hx5 : (((a.put o2.dst (.agg cs.toArray)).put o3.dst (.pointer (some ⟨w.heap.size, 0, none⟩))).put o4.dst (.pointer (some ⟨w.heap.size + 1, 0, none⟩))).eval x5 = .pointer (some ⟨w.heap.size, 0, none⟩))
  (hx6 : ((((a.put o2.dst (.agg cs.toArray)).put o3.dst (.pointer (some ⟨w.heap.size, 0, none⟩))).put o4.dst (.pointer (some ⟨w.heap.size + 1, 0, none⟩))).put o5.dst undef).eval x6 = .pointer (some ⟨w.heap.size + 1, 0, none⟩))
  (hy6 : ((((a.put o2.dst (.agg cs.toArray)).put o3.dst (.pointer (some ⟨w.heap.size, 0, none⟩))).put o4.dst (.pointer (some ⟨w.heap.size + 1, 0, none⟩))).put o5.dst undef).eval y6 = .agg cs.toArray)
  (hw : (w.alloc (.cells #[vi] tI)).alloc (.cells cs.toArray T) = w')
  (h : wpList P ops Q rest (((((a.put o2.dst (.agg cs.toArray)).put o3.dst (.pointer (some ⟨w.heap.size, 0, none⟩))).put o4.dst (.pointer (some ⟨w.heap.size + 1, 0, none⟩))).put o5.dst undef).put o6.dst undef) w') : wpList P ops Q (o2 :: o3 :: o4 :: o5 :: o6 :: rest) a w := by
 subst hw
 have hs : (P.info? T).map (·.size) = some cs.length := by
  cases hq : P.info? T with
  | none => simp [hq] at hi
  | some i =>
   rw [hq] at hi
   simp at hi
   simp [hi.2]
 have hsi : (P.info? tI).map (·.size) = some 1 := by
  cases hq : P.info? tI with
  | none => simp [hq] at hii
  | some i =>
   rw [hq] at hii
   simp at hii
   simp [hii.2]
 refine wpList_load_mid g2 T x h2 b o hx cs _ hc hu rfl hs ?_
 refine wpList_of_run (wanted_none g3 _) (v := .pointer (some ⟨w.heap.size, 0, none⟩)) (w' := w.alloc (.cells zi.cells tI)) ?_ ?_
 ·unfold execOp
  simp only [h3, Sem.run_bind, Sem.run_pure, Result.andThen_ok, run_alloc_of hii]
 have hsz : (w.alloc (.cells zi.cells tI)).heap.size = w.heap.size + 1 := by simp
 refine wpList_of_run (wanted_none g4 _) (v := .pointer (some ⟨w.heap.size + 1, 0, none⟩)) (w' := (w.alloc (.cells zi.cells tI)).alloc (.cells z.cells T)) ?_ ?_
 ·unfold execOp
  simp only [h4, Sem.run_bind, Sem.run_pure, Result.andThen_ok, run_alloc_of hi, hsz]
 obtain ⟨c0, hc0⟩ : ∃ c0, zi.cells = #[c0] := by
  have := hzi
  cases hq : zi.cells with
  | mk l =>
   rw [hq] at this
   match l, this with
   | [c0], _ => exact ⟨c0, rfl⟩
 have hb := (Fut.alloc (w.alloc (.cells zi.cells tI)) (.cells z.cells T)).block (heap_alloc_new w (.cells zi.cells tI))
 rw [hc0] at hb
 refine wpList_store_1 (wanted_none g5 _) x5 y5 h5 hx5 hy5 hsi hvi (u := c0) (cell_at (by rw [hc0]; exact hb) 0 c0 rfl) (free_at (by rw [hc0]; exact hb) 0) (set_under w zi.cells z.cells tI T vi) ?_
 have e1 : zi.cells.setIfInBounds 0 vi = #[vi] := by rw [hc0]; rfl
 rw [e1]
 refine wpList_of_skip (wanted_none g6 _) (w' := (w.alloc (.cells #[vi] tI)).alloc (.cells cs.toArray T)) ?_ h
 have hsz2 : (w.alloc (.cells #[vi] tI)).heap.size = w.heap.size + 1 := by simp
 unfold execOp
 have h9 := box_store (P := P) (w.alloc (.cells #[vi] tI)) cs z.cells hs hz h1
 rw [hsz2] at h9
 simp only [h6, hx6, hy6, Sem.run_bind, Sem.run_pure, Result.andThen_ok, h9]
def Ru.kind (r : Ru) : Int := if r.agg = true then 3 else if r.makes = true then 4 else 1
def Ru.edge (r : Ru) (i : Int) (l : Lt) : Ed := ⟨r.p, l.p, if l.k = 2 then 2 else r.kind, i⟩
def Ru.edges (r : Ru) (i : Int) : List Ed := (r.b.filter Lt.isA).map (r.edge i)
def edgesP (rs : List Ru) : List Ed := rs.zipIdx.flatMap fun x => x.1.edges (x.2 : Nat)
theorem edges_take {rs : List Ru} {k : Nat} (hk : k < rs.length) : edgesP (rs.take (k + 1)) = edgesP (rs.take k) ++ rs[k].edges (k : Nat) := by
 unfold edgesP
 rw [List.take_succ_eq_append_getElem hk, List.zipIdx_append, List.flatMap_append]
 simp [List.length_take, Nat.min_eq_left (Nat.le_of_lt hk)]
def Small (rs : List Ru) : Prop := (rs.map Ru.parts).sum ≤ 10000000
theorem vs_parts (x : Lt) : x.parts = 1 + x.vs.length := by
 unfold Lt.parts Lt.vs
 rw [List.length_append, List.length_append, List.length_map, Ex.vs_len, Ex.vs_len]
 omega
theorem bs_parts : ∀ l : List Lt, (l.flatMap Lt.vs).length + l.length = (l.map Lt.parts).sum
 | [] => rfl
 | x :: r => by
  rw [List.flatMap_cons, List.length_append, List.map_cons, List.sum_cons, ← bs_parts r, vs_parts, List.length_cons]
  omega
theorem Ru.parts_eq (r : Ru) : r.parts = 1 + r.hs.length + r.bs.length + r.b.length := by
 unfold Ru.parts Ru.hs Ru.bs
 rw [← bs_parts, List.length_map]
 omega
theorem sum_mem {α : Type} (f : α → Nat) : ∀ {l : List α} {x : α}, x ∈ l → f x ≤ (l.map f).sum
 | y :: r, x, h => by
  rw [List.map_cons, List.sum_cons]
  rcases List.mem_cons.1 h with rfl | h
  ·omega
  ·have := sum_mem f h
   omega
theorem Small.mem {rs : List Ru} (h : Small rs) {r : Ru} (hr : r ∈ rs) : r.hs.length + r.bs.length ≤ 10000000 ∧ r.b.length ≤ 10000000 := by
 have h1 := sum_mem Ru.parts hr
 unfold Small at h
 rw [Ru.parts_eq] at h1
 omega
theorem edges_len : ∀ (rs : List Ru) (n : Nat), ((rs.zipIdx n).flatMap fun x => x.1.edges (x.2 : Nat)).length ≤ (rs.map Ru.parts).sum
 | [], n => by simp
 | r :: rs, n => by
  rw [List.zipIdx_cons, List.flatMap_cons, List.length_append, List.map_cons, List.sum_cons]
  have h1 := edges_len rs (n + 1)
  have h2 : (r.edges (n : Nat)).length ≤ r.parts := by
   unfold Ru.edges
   rw [List.length_map, Ru.parts_eq]
   have := List.length_filter_le Lt.isA r.b
   omega
  simp only
  omega
theorem Small.edges {rs : List Ru} (h : Small rs) : (edgesP rs).length ≤ 10000000 := by
 have := edges_len rs 0
 unfold Small at h
 unfold edgesP
 omega
theorem Small.len {rs : List Ru} (h : Small rs) : rs.length ≤ 10000000 := by
 have : ∀ l : List Ru, l.length ≤ (l.map Ru.parts).sum := fun l => by
  induction l with
  | nil => simp
  | cons r l ih =>
   rw [List.length_cons, List.map_cons, List.sum_cons, Ru.parts_eq]
   omega
 have := this rs
 unfold Small at h
 omega
theorem filt_take {l : List Lt} {k : Nat} (hk : k < l.length) (g : Lt → Ed) : ((l.take (k + 1)).filter Lt.isA).map g = ((l.take k).filter Lt.isA).map g ++ (if l[k].isA = true then [g l[k]] else []) := by
 rw [List.take_succ_eq_append_getElem hk, List.filter_append, List.map_append]
 cases h : l[k].isA <;> simp [h]
theorem call_edge1 : ∀ args W, (callFunc 35 args).run Tryz.prog W = .ok (.enter 35 args) W := fun args W => by kernel_rfl
theorem edges_of {wC : World} {rb kb ib ob : Nat} (r : Ru) (i : Int) (Ah Ab : Option Addr) (ch cb : Nat) (es : List Ed) (w : World) (hf : Fut wC w) (h2 : SlRep 16 651562446089 RLt wC (.slice Ab r.b.length cb) r.b) (hes : es.length + r.b.length ≤ 100000000)
  (h0 : ∃ lv, EdSt wC.heap.size w rb kb ib ob r.p (.slice Ah r.h.length ch) (.slice Ab r.b.length cb) r.kind i es lv) :
  Calls Tryz.prog 34 #[.slice Ab r.b.length cb, .func (.func 35) #[] #[.pointer (some ⟨rb, 0, none⟩), .pointer (some ⟨kb, 0, none⟩), .pointer (some ⟨ib, 0, none⟩), .pointer (some ⟨ob, 0, none⟩)]] w fun e w' => (∃ u, e = .returned u) ∧ Fut wC w' ∧ ∃ lv, EdSt wC.heap.size w' rb kb ib ob r.p (.slice Ah r.h.length ch) (.slice Ab r.b.length cb) r.kind i (es ++ r.edges i) lv := by
 refine (atoms_any (fun k W => Fut wC W ∧ ∃ lv, EdSt wC.heap.size W rb kb ib ob r.p (.slice Ah r.h.length ch) (.slice Ab r.b.length cb) r.kind i (es ++ ((r.b.take k).filter Lt.isA).map (r.edge i)) lv) Ab cb r.b w _ _ (by omega) call_edge1 (fun k W h => h2.fut RLt.stays h.1) (fun k W W' h hw => ⟨h.1.trans hw, by obtain ⟨lv, h9⟩ := h.2; exact ⟨lv, h9.fut hw⟩⟩) (fun k hk W h ha => ?_) (fun k hk W A' c' Al l cl Ad d cd h ha hc => ?_) ⟨hf, by simpa using h0⟩).mono ?_
 ·refine ⟨h.1, ?_⟩
  obtain ⟨lv, h9⟩ := h.2
  refine ⟨lv, ?_⟩
  rw [filt_take hk, if_neg (by rw [ha]; decide), List.append_nil]
  exact h9
 ·obtain ⟨hF, lv, h9⟩ := h
  have hfl := List.length_filter_le Lt.isA (r.b.take k)
  rw [List.length_take] at hfl
  refine (edge1_any r.b[k] A' c' Al l cl Ad d cd W h9 hF.size (by rw [List.length_append, List.length_map]; omega)).mono ?_
  rintro e W' ⟨hu, ⟨lv', h8⟩, hO⟩
  refine ⟨hu, ((Only.fut hF).trans hO).toFut (fun k hk => hk), lv', ?_⟩
  rw [filt_take hk, if_pos ha, ← List.append_assoc]
  exact h8
 ·rintro e w' ⟨hu, hF, h9⟩
  refine ⟨hu, hF, ?_⟩
  rw [List.take_length] at h9
  exact h9
theorem infoRu : (Tryz.prog.info? 80).map (fun i => (i.zero, i.size)) = some (some (.agg #[.string ⟨#[]⟩, .slice none 0 0, .slice none 0 0]), 3) := by kernel_rfl
theorem infoIn2 : (Tryz.prog.info? 3).map (fun i => (i.zero, i.size)) = some (some (.int .i64 0), 1) := by kernel_rfl
theorem EdSt.kind {B rb kb ib ob : Nat} {W : World} {p : ByteArray} {hv bv lv : Value} {kd i v : Int} {es : List Ed} (h : EdSt B W rb kb ib ob p hv bv kd i es lv) : EdSt B (W.setCell ⟨kb, 0, none⟩ (.int .i8 v)) rb kb ib ob p hv bv v i es lv := by
 have O2 : Only (fun k => k = kb) W (W.setCell ⟨kb, 0, none⟩ (.int .i8 v)) := Only.set _ _ rfl
 refine ⟨O2.keeps h.r (other_block h.r h.k (by decide)), set_block h.k, O2.keeps h.i (other_block h.i h.k (by decide)), O2.keeps h.o (other_block h.o h.k (by decide)), h.list.only (fun _ _ h => h) O2 fun k hk e => ?_, h.low⟩
 obtain ⟨arr, h9⟩ := h.list.typed k hk
 exact other_block h9 h.k (by decide) e
theorem three_cells {w : World} {b o : Nat} {x0 x1 x2 : Value} (h0 : w.cell? ⟨b, o, none⟩ = some x0) (h1 : w.cell? ⟨b, o + 1, none⟩ = some x1) (h2 : w.cell? ⟨b, o + 2, none⟩ = some x2) : ∀ j v, [x0, x1, x2][j]? = some v → w.cell? ⟨b, o + j, none⟩ = some v := fun j v hj => by
 match j, hj with
 | 0, hj => injection hj with hj; subst hj; exact h0
 | 1, hj => injection hj with hj; subst hj; exact h1
 | 2, hj => injection hj with hj; subst hj; exact h2
 | j + 3, hj => simp at hj
set_option maxHeartbeats 4000000 in
set_option maxRecDepth 100000 in
theorem edges_any {M : Nat} (A : Option Addr) (c : Nat) (rs : List Ru) (w : World) (h : SlRep 3 M RRu w (.slice A rs.length c) rs) (hM : M ≤ 9223372036854775807) (hS : Small rs) :
  Calls Tryz.prog 14 #[.agg #[.slice A rs.length c]] w fun e w' => ∃ v, e = .returned v ∧ OwnL 4 w.heap.size tEdge REd w' v (edgesP rs) ∧ Fut w w' := by
 obtain ⟨_, _, hv, hl1, hl2⟩ := h.form
 have hxl : rs.length ≤ 9223372036854775807 := by omega
 have H := Lib.hid h
 have HS := Lib.hid hS
 clear h hS hl1 hl2 hv
 have hbx := heap_alloc_new w (.cells #[.slice A rs.length c] 31)
 have c0 := cell_at hbx 0 (.slice A rs.length c) rfl
 go_enter Tryz.func14, Tryz.ntmps14
 go_wp2_with fail
 clear c0 hbx
 have hob := heap_alloc_new (w.alloc (.cells #[.slice A rs.length c] 31)) (.cells #[.slice none 0 0] tEdges)
 have hsz0 : (w.alloc (.cells #[.slice A rs.length c] 31)).heap.size = w.heap.size + 1 := by simp
 rw [hsz0] at hob
 have HI := Lib.hid (show ∃ lv, ((w.alloc (.cells #[.slice A rs.length c] 31)).alloc (.cells #[.slice none 0 0] tEdges)).heap[w.heap.size + 1]? = some (.cells #[lv] tEdges (0, 0)) ∧ OwnL 4 w.heap.size tEdge REd ((w.alloc (.cells #[.slice A rs.length c] 31)).alloc (.cells #[.slice none 0 0] tEdges)) lv (edgesP (rs.take 0)) from ⟨_, hob, OwnL.nil⟩)
 have HF0 := Lib.hid ((Fut.alloc w (.cells #[.slice A rs.length c] 31)).trans (Fut.alloc _ (.cells #[.slice none 0 0] tEdges)))
 clear hob hsz0
 go_loopw [10] (fun i wr => ∃ k : Nat, k ≤ rs.length ∧ i = .int .i64 k ∧ Hid (Fut w wr) ∧ Hid (∃ lv, wr.heap[w.heap.size + 1]? = some (.cells #[lv] tEdges (0, 0)) ∧ OwnL 4 w.heap.size tEdge REd wr lv (edgesP (rs.take k)))) (fun i _ => rs.length - (intOf i).toNat)
 case atStart => exact ⟨0, Nat.zero_le _, rfl, HF0, HI⟩
 case round =>
  obtain ⟨k, hk, rfl, hF, hI⟩ := hrel
  by_cases hlt : k < rs.length
  ·have hltI : (k : Int) < rs.length := by omega
   have e0 : (0 : Int) ≤ k ∧ (k : Int) < rs.length := by omega
   obtain ⟨b', off, Ah, ch, Ab, cb, rfl, u0, u1, u2, hp, hh1, hh2⟩ := ru_at H.out hlt
   have hnx := Lib.hid (edges_take hlt)
   have hmem := HS.out.mem (List.getElem_mem hlt)
   have hlen : (edgesP (rs.take k)).length ≤ 10000000 := by
    have h1 := HS.out.edges
    have h2 : edgesP rs = edgesP (rs.take k) ++ ((rs.drop k).zipIdx k).flatMap fun x => x.1.edges (x.2 : Nat) := by
     unfold edgesP
     conv => lhs; rw [← List.take_append_drop k rs]
     rw [List.zipIdx_append, List.flatMap_append, List.length_take, Nat.min_eq_left hk, Nat.zero_add]
    rw [h2, List.length_append] at h1
    omega
   obtain ⟨r, hrk⟩ : ∃ r, rs[k] = r := ⟨_, rfl⟩
   rw [hrk] at u0 u1 u2 hp hh1 hh2 hnx hmem
   have hbd := Lib.hid (And.intro hlen hmem)
   have hcs9 := Lib.hid (three_cells (hF.out.cell u0) (hF.out.cell u1) (hF.out.cell u2))
   have HAG := Lib.hid (fun W (hW : Fut w W) => agg_any r Ah Ab ch cb W (hh1.fut RAr.stays hW))
   have HMK := Lib.hid (fun W (hW : Fut w W) => makes_any r Ah Ab ch cb W hp (hh1.fut RAr.stays hW) (hh2.fut RLt.stays hW) (by omega))
   have hb2 := Lib.hid hh2
   clear u0 u1 u2 hp hh1 hh2 hrk hmem hlen
   obtain ⟨lv0, hob, hown⟩ := hI.out
   obtain ⟨w2, hw2⟩ : ∃ W, (wr.alloc (.cells #[.int .i64 (k : Nat)] 3)).alloc (.cells [.string r.p, .slice Ah r.h.length ch, .slice Ab r.b.length cb].toArray 80) = W := ⟨_, rfl⟩
   have f1 := Fut.alloc wr (.cells #[.int .i64 (k : Nat)] 3)
   have f2 := Fut.alloc (wr.alloc (.cells #[.int .i64 (k : Nat)] 3)) (.cells [.string r.p, .slice Ah r.h.length ch, .slice Ab r.b.length cb].toArray 80)
   have hib := f2.block (heap_alloc_new wr (.cells #[.int .i64 (k : Nat)] 3))
   have hrb := heap_alloc_new (wr.alloc (.cells #[.int .i64 (k : Nat)] 3)) (.cells [.string r.p, .slice Ah r.h.length ch, .slice Ab r.b.length cb].toArray 80)
   have hz1 : (wr.alloc (.cells #[.int .i64 (k : Nat)] 3)).heap.size = wr.heap.size + 1 := by simp
   rw [hz1] at hrb
   have f12 := f1.trans f2
   rw [hw2] at f12 hib hrb
   clear f1 f2 hz1
   have f3 := Fut.alloc w2 (.cells #[.int .i8 1] 90)
   have hkb := Lib.hid (show w.heap.size ≤ w2.heap.size from Nat.le_trans hF.out.size f12.size)
   have GE : EdSt w.heap.size (w2.alloc (.cells #[.int .i8 1] 90)) (wr.heap.size + 1) w2.heap.size wr.heap.size (w.heap.size + 1) r.p (.slice Ah r.h.length ch) (.slice Ab r.b.length cb) 1 (k : Nat) (edgesP (rs.take k)) lv0 :=
    ⟨f3.block hrb, heap_alloc_new w2 _, f3.block hib, f3.block (f12.block hob), hown.fut REd.stays (f12.trans f3), by omega⟩
   have F3 := (hF.out.trans f12).trans f3
   have q0 := cell_at GE.r 0 (.string r.p) rfl
   have q1 := cell_at GE.r 1 (.slice Ah r.h.length ch) rfl
   have q2 := cell_at GE.r 2 (.slice Ab r.b.length cb) rfl
   have hone : ∀ v ∈ ([.string r.p, .slice Ah r.h.length ch, .slice Ab r.b.length cb] : List Value), v.oneCell' = true := fun v hv => by
    simp only [List.mem_cons, List.not_mem_nil, or_false] at hv
    rcases hv with rfl | rfl | rfl <;> rfl
   replace GE := Lib.hid GE
   replace F3 := Lib.hid F3
   have hw2h := Lib.hid hw2
   clear hob hown hib hrb f12 f3 hw2 hI
   have hkind : r.kind = if r.agg = true then 3 else if r.makes = true then 4 else 1 := rfl
   obtain ⟨ag, hag⟩ : ∃ g, r.agg = g := ⟨_, rfl⟩
   rw [hag] at hkind
   have HC := HAG.out _ F3.out
   rw [hag] at HC
   replace HC := Lib.hid HC
   clear hag HAG
   cases ag
   ·obtain ⟨mk, hmk⟩ : ∃ g, r.makes = g := ⟨_, rfl⟩
    rw [hmk] at hkind
    simp only [hmk] at HMK
    clear hmk
    go_wp2_with (first | (refine wpList_rangeBox2 [.string r.p, .slice Ah r.h.length ch, .slice Ab r.b.length cb] (.int .i64 (k : Nat)) rfl rfl rfl rfl rfl rfl rfl rfl rfl rfl rfl hcs9.out Tryz.underlying80 infoRu rfl hone infoIn2 rfl rfl rfl rfl rfl rfl hw2h.out ?_))
    refine HC.out.mono ?_
    rintro e w3 ⟨rfl, f3⟩
    have g3 := GE.out.fut f3
    have p0 := cell_at g3.r 0 (.string r.p) rfl
    have p1 := cell_at g3.r 1 (.slice Ah r.h.length ch) rfl
    have p2 := cell_at g3.r 2 (.slice Ab r.b.length cb) rfl
    have HC4 := Lib.hid (HMK.out _ (F3.out.trans f3))
    have G3 := Lib.hid g3
    have F3' := Lib.hid (F3.out.trans f3)
    clear g3 f3 HC HMK q0 q1 q2
    go_wp2_with fail
    refine HC4.out.mono ?_
    rintro e w4 ⟨rfl, f4⟩
    have g4 := G3.out.fut f4
    have F4 := F3'.out.trans f4
    clear f4 p0 p1 p2 HC4
    cases mk
    ·have hkd : r.kind = 1 := hkind
     clear hkind
     have hE5 : EdSt w.heap.size w4 (wr.heap.size + 1) w2.heap.size wr.heap.size (w.heap.size + 1) r.p (.slice Ah r.h.length ch) (.slice Ab r.b.length cb) r.kind (k : Nat) (edgesP (rs.take k)) lv0 := by rw [hkd]; exact g4
     have hF5 := F4
     clear g4 F4 hkd
     have HA := Lib.hid (edges_of r (k : Nat) Ah Ab ch cb (edgesP (rs.take k)) w4 hF5 hb2.out (by have := hbd.out; omega) ⟨lv0, hE5⟩)
     have c2' := cell_at hE5.r 2 (Value.slice Ab r.b.length cb) rfl
     clear hF5 hE5
     go_wp2_with fail
     refine HA.out.mono ?_
     rintro e w6 ⟨⟨u, rfl⟩, hF6, hE6⟩
     have HF6 := Lib.hid hF6
     have HE6 := Lib.hid (show ∃ lv, w6.heap[w.heap.size + 1]? = some (.cells #[lv] tEdges (0, 0)) ∧ OwnL 4 w.heap.size tEdge REd w6 lv (edgesP (rs.take (k + 1))) from by
      obtain ⟨lv, g⟩ := hE6
      exact ⟨lv, g.o, by rw [hnx.out]; exact g.list⟩)
     clear hF6 hE6 HA
     go_wp2
     go_roundw
     case rel => exact ⟨k + 1, by omega, by go_num, HF6, HE6⟩
     case measure => simp [intOf] <;> omega
    ·have hkd : r.kind = 4 := hkind
     clear hkind
     obtain ⟨w5, hw5⟩ : ∃ W, w4.setCell ⟨w2.heap.size, 0, none⟩ (.int .i8 4) = W := ⟨_, rfl⟩
     have hE5 : EdSt w.heap.size w5 (wr.heap.size + 1) w2.heap.size wr.heap.size (w.heap.size + 1) r.p (.slice Ah r.h.length ch) (.slice Ab r.b.length cb) r.kind (k : Nat) (edgesP (rs.take k)) lv0 := by rw [hkd, ← hw5]; exact g4.kind
     have hF5 : Fut w w5 := by
      have O2 : Only (fun k => k = w2.heap.size) w4 w5 := by rw [← hw5]; exact Only.set _ _ rfl
      have hO : Only (fun k => w.heap.size ≤ k) w w5 := (Only.fut F4).trans (O2.mono fun k _ hk => by have := hkb.out; omega)
      exact hO.toFut fun k hk => hk
     have c0' := cell_at g4.k 0 (.int .i8 1) rfl
     have c1' := free_at g4.k 0
     have c2' := cell_at hE5.r 2 (Value.slice Ab r.b.length cb) rfl
     have hi3 := infoKd
     have HE5 := Lib.hid hE5
     have HF5 := Lib.hid hF5
     clear hE5 hF5 g4 F4
     go_wp2_with (first | (refine wpList_store_1 (wanted_none rfl _) _ _ rfl rfl rfl hi3 rfl c0' c1' hw5 ?_))
     clear hw5 c0' c1'
     have hE5 := HE5.out
     have hF5 := HF5.out
     have HA := Lib.hid (edges_of r (k : Nat) Ah Ab ch cb (edgesP (rs.take k)) w5 hF5 hb2.out (by have := hbd.out; omega) ⟨lv0, hE5⟩)
     have c2' := cell_at hE5.r 2 (Value.slice Ab r.b.length cb) rfl
     clear hF5 hE5
     go_wp2_with fail
     refine HA.out.mono ?_
     rintro e w6 ⟨⟨u, rfl⟩, hF6, hE6⟩
     have HF6 := Lib.hid hF6
     have HE6 := Lib.hid (show ∃ lv, w6.heap[w.heap.size + 1]? = some (.cells #[lv] tEdges (0, 0)) ∧ OwnL 4 w.heap.size tEdge REd w6 lv (edgesP (rs.take (k + 1))) from by
      obtain ⟨lv, g⟩ := hE6
      exact ⟨lv, g.o, by rw [hnx.out]; exact g.list⟩)
     clear hF6 hE6 HA
     go_wp2
     go_roundw
     case rel => exact ⟨k + 1, by omega, by go_num, HF6, HE6⟩
     case measure => simp [intOf] <;> omega
   ·have hkd : r.kind = 3 := hkind
    clear hkind HMK
    go_wp2_with (first | (refine wpList_rangeBox2 [.string r.p, .slice Ah r.h.length ch, .slice Ab r.b.length cb] (.int .i64 (k : Nat)) rfl rfl rfl rfl rfl rfl rfl rfl rfl rfl rfl hcs9.out Tryz.underlying80 infoRu rfl hone infoIn2 rfl rfl rfl rfl rfl rfl hw2h.out ?_))
    refine HC.out.mono ?_
    rintro e w3 ⟨rfl, f3⟩
    have g4 := GE.out.fut f3
    have F4 := F3.out.trans f3
    clear f3 HC q0 q1 q2
    obtain ⟨w5, hw5⟩ : ∃ W, w3.setCell ⟨w2.heap.size, 0, none⟩ (.int .i8 3) = W := ⟨_, rfl⟩
    have hE5 : EdSt w.heap.size w5 (wr.heap.size + 1) w2.heap.size wr.heap.size (w.heap.size + 1) r.p (.slice Ah r.h.length ch) (.slice Ab r.b.length cb) r.kind (k : Nat) (edgesP (rs.take k)) lv0 := by rw [hkd, ← hw5]; exact g4.kind
    have hF5 : Fut w w5 := by
     have O2 : Only (fun k => k = w2.heap.size) w3 w5 := by rw [← hw5]; exact Only.set _ _ rfl
     have hO : Only (fun k => w.heap.size ≤ k) w w5 := (Only.fut F4).trans (O2.mono fun k _ hk => by have := hkb.out; omega)
     exact hO.toFut fun k hk => hk
    have c0' := cell_at g4.k 0 (.int .i8 1) rfl
    have c1' := free_at g4.k 0
    have c2' := cell_at hE5.r 2 (Value.slice Ab r.b.length cb) rfl
    have hi3 := infoKd
    have HE5 := Lib.hid hE5
    have HF5 := Lib.hid hF5
    clear hE5 hF5 g4 F4
    go_wp2_with (first | (refine wpList_store_1 (wanted_none rfl _) _ _ rfl rfl rfl hi3 rfl c0' c1' hw5 ?_))
    clear hw5 c0' c1'
    have hE5 := HE5.out
    have hF5 := HF5.out
    have HA := Lib.hid (edges_of r (k : Nat) Ah Ab ch cb (edgesP (rs.take k)) w5 hF5 hb2.out (by have := hbd.out; omega) ⟨lv0, hE5⟩)
    have c2' := cell_at hE5.r 2 (Value.slice Ab r.b.length cb) rfl
    clear hF5 hE5
    go_wp2_with fail
    refine HA.out.mono ?_
    rintro e w6 ⟨⟨u, rfl⟩, hF6, hE6⟩
    have HF6 := Lib.hid hF6
    have HE6 := Lib.hid (show ∃ lv, w6.heap[w.heap.size + 1]? = some (.cells #[lv] tEdges (0, 0)) ∧ OwnL 4 w.heap.size tEdge REd w6 lv (edgesP (rs.take (k + 1))) from by
     obtain ⟨lv, g⟩ := hE6
     exact ⟨lv, g.o, by rw [hnx.out]; exact g.list⟩)
    clear hF6 hE6 HA
    go_wp2
    go_roundw
    case rel => exact ⟨k + 1, by omega, by go_num, HF6, HE6⟩
    case measure => simp [intOf] <;> omega
  ·obtain rfl : k = rs.length := by omega
   rw [List.take_length] at hI
   obtain ⟨lv, g1, g2⟩ := hI.out
   have y1 := cell_at g1 0 lv rfl
   replace g2 := Lib.hid g2
   clear hI g1
   go_wp2
   go_ret
   exact ⟨_, rfl, g2.out, hF.out⟩
def RBo (_ : World) (cs : List Value) (b : Bool) : Prop := cs = [.bool b]
theorem RBo.stays : Stays RBo := fun _ _ _ _ _ h => h
theorem RBo.keeps {e : TypeId} : Keeps e RBo := fun _ _ _ _ _ h _ _ => h
theorem RBo.one : ∀ (w : World) cs x, RBo w cs x → ∀ u ∈ cs, u.oneCell' = true := fun w cs x h u hu => by
 obtain rfl : cs = _ := h
 simp only [List.mem_singleton] at hu
 subst hu; rfl
def exZ : Ex := .mk 0 ⟨⟨#[]⟩, ⟨0, 0, ⟨#[]⟩⟩⟩ []
def ltZ (k : Int) (p : ByteArray) : Lt := ⟨k, p, [], 0, exZ, exZ⟩
theorem exZ_re (w : World) : RE 1 w (exZ.cs (.slice none 0 0)) exZ := ⟨_, rfl, by decide, ⟨by decide, by decide, by decide, by decide⟩, SlRep.nil⟩
theorem ltZ_c (w : World) (k : Int) (p : ByteArray) (hk : (Lit.int .i8 k).wf = true) (hp : p.size ≤ 140737488351232) : LtC w (ltZ k p) (.slice none 0 0) (.slice none 0 0) (.slice none 0 0) :=
 ⟨SlRep.nil, ⟨1, exZ_re w⟩, ⟨1, exZ_re w⟩, hk, (by show (Lit.int .i8 0).wf = true; decide), hp⟩
abbrev ltZs (k : Int) (p : ByteArray) : List Value := [.int .i8 k, .string p, .slice none 0 0, .int .i8 0, .int .i8 0, .string ⟨#[]⟩, .int .i8 0, .int .i64 0, .string ⟨#[]⟩, .slice none 0 0, .int .i8 0, .string ⟨#[]⟩, .int .i8 0, .int .i64 0, .string ⟨#[]⟩, .slice none 0 0]
set_option maxHeartbeats 2000000 in
set_option maxRecDepth 100000 in
theorem lawAtom_any (k : Int) (p : ByteArray) (w : World) :
  Calls Tryz.prog 36 #[.int .i8 k, .string p] w fun e w' => e = .returned (.agg (ltZs k p).toArray) ∧ Fut w w' := by
 go_enter Tryz.func36, Tryz.ntmps36
 go_wp2
 have hb := heap_alloc_new w (.cells (ltZs k p).toArray 119)
 refine bodyPost_ret (v := .agg (ltZs k p).toArray) (results_cell_row rfl _ _ w.heap.size _ (ltZs k p).toArray _ _ rfl hb Tryz.underlying119 rfl infoLtS) rfl ?_
 exact ⟨rfl, Fut.alloc _ _⟩
end Go.Proofs.YtdjffkkbjbiihaaGreatDoor
