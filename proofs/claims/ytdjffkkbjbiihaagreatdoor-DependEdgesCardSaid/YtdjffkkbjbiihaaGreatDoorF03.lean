/- Parts. -/
import Derived.Test.YtdjffkkbjbiihaaGreatDoorF02
set_option linter.unusedSimpArgs false
set_option linter.unusedVariables false
namespace Go.Proofs.YtdjffkkbjbiihaaGreatDoor
open Go.RowKit Go.WideMaps Go.Maps
theorem ar9_at {M : Nat} {w : World} {A : Option Addr} {n cap : Nat} {xs : List Ar} (h : SlRep 5 M RAr w (.slice A n cap) xs) {k : Nat} (hk : k < xs.length) :
    ∃ b off, A = some ⟨b, off, none⟩ ∧ w.cell? ⟨b, off + k * 5, none⟩ = some (.int .i8 (xs[k]).g) := by
 obtain ⟨A1, cap1, hv, _, _, h3⟩ := h
 obtain ⟨b, off, cs, hA, hl, hc, hr, _⟩ := h3 k _ (List.getElem?_eq_getElem hk)
 injection hv with hv _ _
 subst hr
 exact ⟨b, off, hv.trans hA, hc 0 _ rfl⟩
set_option maxHeartbeats 1000000 in
set_option maxRecDepth 100000 in
theorem risAtom_any (z : Lt) (A1 : Option Addr) (n1 c1 : Nat) (A2 : Option Addr) (n2 c2 : Nat) (A3 : Option Addr) (n3 c3 : Nat) (w : World) :
    Calls Tryz.prog 29 #[.agg (z.cs (.slice A1 n1 c1) (.slice A2 n2 c2) (.slice A3 n3 c3)).toArray] w fun e w' => e = .returned (.bool z.isA) ∧ Fut w w' := by
 have hbx := heap_alloc_new w (.cells (z.cs (.slice A1 n1 c1) (.slice A2 n2 c2) (.slice A3 n3 c3)).toArray 119)
 have k0 := cell_at hbx 0 (.int .i8 z.k) rfl
 obtain ⟨b, hb⟩ : ∃ b, z.isA = b := ⟨_, rfl⟩
 rw [hb]
 unfold Lt.isA at hb
 generalize hcs : z.cs (.slice A1 n1 c1) (.slice A2 n2 c2) (.slice A3 n3 c3) = cs at *
 clear hcs hbx
 have f0 := Fut.alloc w (.cells cs.toArray 119)
 generalize z.k = k at *
 by_cases h1 : k = 1
 ·subst h1
  obtain rfl : b = true := by rw [← hb]; rfl
  clear hb
  go_enter Tryz.func29, Tryz.ntmps29
  go_wp2
  go_ret
  exact ⟨rfl, f0⟩
 ·have h1b : (k == 1) = false := by rw [beq_eq_false_iff_ne]; exact h1
  by_cases h2 : k = 2
  ·subst h2
   obtain rfl : b = true := by rw [← hb]; rfl
   clear hb
   go_enter Tryz.func29, Tryz.ntmps29
   go_wp2
   go_ret
   exact ⟨rfl, f0⟩
  ·have h2b : (k == 2) = false := by rw [beq_eq_false_iff_ne]; exact h2
   obtain rfl : b = false := by rw [← hb, decide_eq_false h1, decide_eq_false h2]; rfl
   clear hb
   go_enter Tryz.func29, Tryz.ntmps29
   go_wp2
   go_ret
   exact ⟨rfl, f0⟩
set_option maxHeartbeats 2000000 in
set_option maxRecDepth 100000 in
theorem rhasAgg_any (x : Ru) (Ah Ab : Option Addr) (ch cb : Nat) (w : World) (h1 : SlRep 5 2513169434916 RAr w (.slice Ah x.h.length ch) x.h) :
    Calls Tryz.prog 31 #[.agg #[.string x.p, .slice Ah x.h.length ch, .slice Ab x.b.length cb]] w fun e w' => e = .returned (.bool x.agg) ∧ Fut w w' := by
 have hh := h1.len
 obtain ⟨_, _, _, hc1, hc2⟩ := h1.form
 have f0 := Fut.alloc w (.cells #[.string x.p, .slice Ah x.h.length ch, .slice Ab x.b.length cb] 80)
 have hbx := heap_alloc_new w (.cells #[.string x.p, .slice Ah x.h.length ch, .slice Ab x.b.length cb] 80)
 have H1 := Lib.hid (h1.fut RAr.stays f0)
 have HB := Lib.hid hbx
 have F0 := Lib.hid f0
 have hxl : x.h.length ≤ 9223372036854775807 := by omega
 unfold Ru.agg
 obtain ⟨b, hb⟩ : ∃ b, x.h.any Ar.agg = b := ⟨_, rfl⟩
 rw [hb]
 replace hb := Lib.hid hb
 clear h1 f0 hbx hh hc1 hc2
 obtain ⟨p, xh, xb⟩ := x
 dsimp only at *
 generalize xb.length = m at *
 obtain ⟨wb, hwb⟩ : ∃ W, w.alloc (.cells #[.string p, .slice Ah xh.length ch, .slice Ab m cb] 80) = W := ⟨_, rfl⟩
 rw [hwb] at H1 HB F0
 have y1 := cell_at HB.out 1 (.slice Ah xh.length ch) rfl
 go_enter Tryz.func31, Tryz.ntmps31
 go_wp2_with fail
 go_loopw [3] (fun i wr => ∃ k : Nat, k ≤ xh.length ∧ i = .int .i64 k ∧ Hid (wr = wb) ∧ Hid (∀ y ∈ xh.take k, y.agg = false)) (fun i _ => xh.length - (intOf i).toNat)
 case atStart => exact ⟨0, Nat.zero_le _, rfl, (by first | exact Lib.hid hwb | exact Lib.hid rfl), Lib.hid (fun y hy => by simp at hy)⟩
 case round =>
  obtain ⟨k, hk, rfl, hW, hA⟩ := hrel
  clear hwb
  obtain rfl := hW.out
  by_cases hlt : k < xh.length
  ·have hltI : (k : Int) < xh.length := by omega
   have e0 : (0 : Int) ≤ k ∧ (k : Int) < xh.length := by omega
   obtain ⟨b', off, rfl, u0⟩ := ar9_at H1.out hlt
   have hnx := Lib.hid (List.take_succ_eq_append_getElem hlt)
   have hmem := Lib.hid (List.getElem_mem hlt)
   generalize xh[k] = z at *
   have hag : z.agg = !decide (z.g = 0) := rfl
   by_cases hz : z.g = 0
   ·rw [hz] at u0
    have HA3 : Hid (∀ y ∈ xh.take (k + 1), y.agg = false) := Lib.hid fun y hy => by
     rw [hnx.out, List.mem_append] at hy
     rcases hy with hy | hy
     ·exact hA.out y hy
     ·rw [List.mem_singleton] at hy; subst hy; rw [hag, hz]; rfl
    clear hag
    go_wp2
    go_roundw
    case rel => exact ⟨k + 1, by omega, by go_num, (by first | exact Lib.hid trivial | exact Lib.hid rfl), HA3⟩
    case measure => simp [intOf] <;> omega
   ·have hzb : (z.g == 0) = false := by rw [beq_eq_false_iff_ne]; exact hz
    obtain rfl : b = true := by
     rw [← hb.out]
     exact List.any_eq_true.2 ⟨z, hmem.out, by rw [hag, decide_eq_false hz]; rfl⟩
    clear hag
    go_wp2
    go_ret
    exact ⟨rfl, F0.out⟩
  ·obtain rfl : k = xh.length := by omega
   rw [List.take_length] at hA
   obtain rfl : b = false := by
    rw [← hb.out]
    exact List.any_eq_false.2 fun x hx => by rw [hA.out x hx]; decide
   go_wp2
   go_ret
   exact ⟨rfl, F0.out⟩
abbrev tRu9 : TypeId := 80
abbrev tPr9 : TypeId := 31
structure E9S (w W : World) (pv u : Value) (es : List Ed) (rb : Nat) (rc : Array Value) (eb : Nat) (f t : ByteArray) (kd i : Int) : Prop where
 fut : Fut w W
 prog : W.heap[w.heap.size]? = some (.cells #[pv] tPr9 (0, 0))
 list : OwnL 4 w.heap.size tEdge REd W u es
 rule : W.heap[rb]? = some (.cells rc tRu9 (0, 0))
 e : W.heap[eb]? = some (.cells #[.string f, .string t, .int .i8 kd, .int .i64 i] tEdge (0, 0))
 lt : (∀ k, u.ownBlock = some k → k < eb) ∧ w.heap.size ≤ eb
section
variable {w W w' : World} {pv u v' : Value} {es : List Ed} {rb eb : Nat} {rc : Array Value} {f t : ByteArray} {kd i : Int} {e : Ed}
theorem E9S.later (h : E9S w W pv u es rb rc eb f t kd i) (hf : Fut W w') : E9S w w' pv u es rb rc eb f t kd i :=
 ⟨h.fut.trans hf, hf.block h.prog, h.list.fut REd.stays hf, hf.block h.rule, hf.block h.e, h.lt⟩
theorem E9S.kind (h : E9S w W pv u es rb rc eb f t kd i) (v : Int) : E9S w (W.setCell ⟨eb, 2, none⟩ (.int .i8 v)) pv u es rb rc eb f t v i := by
 have O2 : Only (fun k => k = eb) W (W.setCell ⟨eb, 2, none⟩ (.int .i8 v)) := Only.set _ _ rfl
 refine ⟨((Only.fut h.fut).trans (O2.mono (S' := fun k => w.heap.size ≤ k) fun k _ hk => by have := h.lt.2; omega)).toFut (fun k hk => hk), O2.keeps h.prog (other_block h.prog h.e (by decide)), h.list.only (fun _ _ h => h) O2 fun k hk e => ?_, O2.keeps h.rule (other_block h.rule h.e (by decide)), ?_, h.lt⟩
 ·have := h.lt.1 k hk
  omega
 ·have := set_block (j := 2) (v := .int .i8 v) h.e
  exact this
theorem E9S.push {o : Obj} (h : E9S w W pv u es rb rc eb f t kd i) (o' : OwnL 4 w.heap.size tEdge REd w' v' (es ++ [e])) (g : (W.alloc o).grownBy w' u.ownBlock) :
    Fut w w' ∧ w'.heap[w.heap.size]? = some (.cells #[pv] tPr9 (0, 0)) ∧ w'.heap[rb]? = some (.cells rc tRu9 (0, 0)) := by
 have h2 := h.later (Fut.alloc W o)
 have O1 : Only (fun k => u.ownBlock = some k) (W.alloc o) w' := Only.grown g fun k hk => hk
 have sep : ∀ {j : Nat} {a : Array Value} {t : TypeId}, (W.alloc o).heap[j]? = some (.cells a t (0, 0)) → t ≠ tEdge → ¬ u.ownBlock = some j := fun hj hn e => by
  obtain ⟨arr, h9⟩ := h2.list.typed _ e
  exact other_block hj h9 hn rfl
 exact ⟨((Only.fut h2.fut).trans (O1.mono (S' := fun k => w.heap.size ≤ k) fun k _ hk => (h2.list.block k hk).1)).toFut fun k hk => hk, O1.keeps h2.prog (sep h2.prog (by decide)), O1.keeps h2.rule (sep h2.rule (by decide))⟩
end
theorem infoEdS9 : (Tryz.prog.info? 92).map (·.size) = some 4 := by kernel_rfl
theorem filt_take9 {l : List Lt} {k : Nat} (hk : k < l.length) {α : Type} (g : Lt → α) : ((l.take (k + 1)).filter Lt.isA).map g = ((l.take k).filter Lt.isA).map g ++ (if l[k].isA = true then [g l[k]] else []) := by
 rw [List.take_succ_eq_append_getElem hk, List.filter_append, List.map_append]
 cases h : l[k].isA <;> simp [h]
theorem edges9_take {rs : List Ru} {k : Nat} (hk : k < rs.length) : edgesP (rs.take (k + 1)) = edgesP (rs.take k) ++ ((rs[k].b.take rs[k].b.length).filter Lt.isA).map (rs[k].edge (k : Nat)) := by
 rw [edges_take hk, List.take_length]
 rfl
set_option maxHeartbeats 8000000 in
set_option maxRecDepth 100000 in
theorem redges_any {M : Nat} (A : Option Addr) (c : Nat) (rs : List Ru) (w : World) (h : SlRep 3 M RRu w (.slice A rs.length c) rs) (hM : M ≤ 9223372036854775807) (hS : Small rs) :
    Calls Tryz.prog 13 #[.agg #[.slice A rs.length c]] w fun e w' => ∃ v, e = .returned v ∧ OwnL 4 w.heap.size tEdge REd w' v (edgesP rs) ∧ Fut w w' := by
 obtain ⟨_, _, hv, hl1, hl2⟩ := h.form
 have hxl : rs.length ≤ 9223372036854775807 := by omega
 have H := Lib.hid h
 have HS := Lib.hid hS
 clear h hS hl1 hl2 hv
 have hbx := heap_alloc_new w (.cells #[.slice A rs.length c] 31)
 obtain ⟨pv, hpv⟩ : ∃ v, Value.slice A rs.length c = v := ⟨_, rfl⟩
 have HI := Lib.hid (show Fut w (w.alloc (.cells #[.slice A rs.length c] 31)) ∧ (w.alloc (.cells #[.slice A rs.length c] 31)).heap[w.heap.size]? = some (.cells #[pv] tPr9 (0, 0)) ∧ OwnL 4 w.heap.size tEdge REd (w.alloc (.cells #[.slice A rs.length c] 31)) (.slice none 0 0) (edgesP (rs.take 0)) from ⟨Fut.alloc w _, by rw [← hpv]; exact hbx, OwnL.nil⟩)
 replace hpv := Lib.hid hpv
 clear hbx
 go_enter Tryz.func13, Tryz.ntmps13
 go_wp2_with fail
 go_loopw [3, 4, 5, 6, 7] (fun u i _ _ _ wr => ∃ k : Nat, k ≤ rs.length ∧ i = .int .i64 k ∧ Hid (Fut w wr ∧ wr.heap[w.heap.size]? = some (.cells #[pv] tPr9 (0, 0)) ∧ OwnL 4 w.heap.size tEdge REd wr u (edgesP (rs.take k)))) (fun _ i _ _ _ _ => rs.length - (intOf i).toNat)
 case atStart => exact ⟨0, Nat.zero_le _, rfl, HI⟩
 case round =>
  clear HI
  obtain ⟨k, hk, rfl, hI⟩ := hrel
  obtain ⟨wq, rfl⟩ : ∃ x, x = wr := ⟨_, rfl⟩
  have y0 := cell_at hI.out.2.1 0 pv rfl
  rw [← hpv.out] at y0
  by_cases hlt : k < rs.length
  ·have hltI : (k : Int) < rs.length := by omega
   have e0 : (0 : Int) ≤ k ∧ (k : Int) < rs.length := by omega
   obtain ⟨b', off, Ah, ch, Ab, cb, rfl, u0, u1, u2, hp, hh1, hh2⟩ := ru_at H.out hlt
   have hnx := Lib.hid (edges9_take hlt)
   have hmem := HS.out.mem (List.getElem_mem hlt)
   have hlen : (edgesP (rs.take k)).length ≤ 10000000 := by
    have h1 := HS.out.edges
    have h2 : edgesP rs = edgesP (rs.take k) ++ ((rs.drop k).zipIdx k).flatMap fun x => x.1.edges (x.2 : Nat) := by
     unfold edgesP
     conv => lhs; rw [← List.take_append_drop k rs]
     rw [List.zipIdx_append, List.flatMap_append, List.length_take, Nat.min_eq_left hk, Nat.zero_add]
    rw [h2, List.length_append] at h1
    omega
   obtain ⟨r, hrk⟩ : ∃ r, rs[k] = r := ⟨_, rfl⟩
   rw [hrk] at u0 u1 u2 hp hh1 hh2 hnx hmem
   have hbl := hmem.2
   have F0 := hI.out.1
   have hcs9 := Lib.hid (three_cells (F0.cell u0) (F0.cell u1) (F0.cell u2))
   have HAG := Lib.hid (fun W (hW : Fut w W) => rhasAgg_any r Ah Ab ch cb W (hh1.fut RAr.stays hW))
   have HMK := Lib.hid (fun W (hW : Fut w W) => rmakes_any r Ah Ab ch cb W hp (hh1.fut RAr.stays hW) (hh2.fut RLt.stays hW) (by omega))
   have HB2 := Lib.hid hh2
   clear u0 u1 u2 hp hh1 hh2 hrk hmem
   obtain ⟨G, hG⟩ : ∃ G, edgesP (rs.take k) = G := ⟨_, rfl⟩
   rw [hG] at hI hnx hlen
   clear hG
   obtain ⟨w2, hw2⟩ : ∃ W, wq.alloc (.cells [.string r.p, .slice Ah r.h.length ch, .slice Ab r.b.length cb].toArray 80) = W := ⟨_, rfl⟩
   have f1 : Fut wq w2 := by rw [← hw2]; exact Fut.alloc _ _
   have hrb : w2.heap[wq.heap.size]? = some (.cells #[.string r.p, .slice Ah r.h.length ch, .slice Ab r.b.length cb] tRu9 (0, 0)) := by rw [← hw2]; exact heap_alloc_new wq _
   have hone : ∀ v ∈ ([.string r.p, .slice Ah r.h.length ch, .slice Ab r.b.length cb] : List Value), v.oneCell' = true := fun v hv => by
    simp only [List.mem_cons, List.not_mem_nil, or_false] at hv
    rcases hv with rfl | rfl | rfl <;> rfl
   have hw2h := Lib.hid hw2
   obtain ⟨bw, hbw⟩ : ∃ v, Value.slice Ab r.b.length cb = v := ⟨_, rfl⟩
   replace hbw := Lib.hid hbw
   have HI2 := Lib.hid (show Fut w w2 ∧ w2.heap[w.heap.size]? = some (.cells #[pv] tPr9 (0, 0)) ∧ OwnL 4 w.heap.size tEdge REd w2 u3 (G ++ ((r.b.take 0).filter Lt.isA).map (r.edge (k : Nat))) ∧ w2.heap[wq.heap.size]? = some (.cells #[.string r.p, .slice Ah r.h.length ch, bw] tRu9 (0, 0)) from ⟨F0.trans f1, f1.block hI.out.2.1, by simpa using hI.out.2.2.fut REd.stays f1, by rw [← hbw.out]; exact hrb⟩)
   obtain ⟨rb, hrbe⟩ : ∃ q, wq.heap.size = q := ⟨_, rfl⟩
   rw [hrbe] at HI2
   clear hw2 f1 hI F0 hrb
   go_wp2_with (first | (refine wpList_rangeBox [.string r.p, .slice Ah r.h.length ch, .slice Ab r.b.length cb] rfl rfl rfl rfl rfl rfl rfl hcs9.out Tryz.underlying80 infoRu rfl hone rfl rfl hw2h.out ?_))
   try rw [hrbe]
   go_loopw [3, 6, 7] (fun u i _ W => ∃ m : Nat, m ≤ r.b.length ∧ i = .int .i64 m ∧ Hid (Fut w W ∧ W.heap[w.heap.size]? = some (.cells #[pv] tPr9 (0, 0)) ∧ OwnL 4 w.heap.size tEdge REd W u (G ++ ((r.b.take m).filter Lt.isA).map (r.edge (k : Nat))) ∧ W.heap[rb]? = some (.cells #[.string r.p, .slice Ah r.h.length ch, bw] tRu9 (0, 0)))) (fun _ i _ _ => r.b.length - (intOf i).toNat)
   case atStart => exact ⟨0, Nat.zero_le _, rfl, HI2⟩
   case round =>
    clear HI2
    obtain ⟨m, hm, rfl, hJ⟩ := hrel
    obtain ⟨wz, rfl⟩ : ∃ x, x = wr := ⟨_, rfl⟩
    have q0 := cell_at hJ.out.2.2.2 0 (.string r.p) rfl
    have q2 := cell_at hJ.out.2.2.2 2 bw rfl
    rw [← hbw.out] at q2
    by_cases hlm : m < r.b.length
    ·have hlmI : (m : Int) < r.b.length := by omega
     have e1 : (0 : Int) ≤ m ∧ (m : Int) < r.b.length := by omega
     obtain ⟨b2, off2, A', c2, Al, l', cl, Ad, d', cd, rfl, hcs, _, _, g3⟩ := lt_at HB2.out hlm
     have hnm := Lib.hid (filt_take9 hlm (r.edge (k : Nat)))
     have hfl := List.length_filter_le Lt.isA (r.b.take m)
     rw [List.length_take] at hfl
     obtain ⟨L1, hL1⟩ : ∃ q, G ++ ((r.b.take m).filter Lt.isA).map (r.edge (k : Nat)) = q := ⟨_, rfl⟩
     have hLl : L1.length ≤ 1000000000 := by rw [← hL1, List.length_append, List.length_map]; omega
     have hnm2 := Lib.hid (show G ++ ((r.b.take (m + 1)).filter Lt.isA).map (r.edge (k : Nat)) = L1 ++ (if (r.b[m]).isA = true then [r.edge (k : Nat) r.b[m]] else []) by rw [hnm.out, ← List.append_assoc, hL1])
     rw [hL1] at hJ
     generalize r.b[m] = z at *
     have hcsA := Lib.hid (fun j v hj => hJ.out.1.cell (hcs j v hj))
     have U0 := Lib.hid (show w.cell? ⟨b2, off2 + m * 16, none⟩ = some (.int .i8 z.k) from hcs 0 _ rfl)
     have u0 := hJ.out.1.cell U0.out
     have u1 : wz.cell? ⟨b2, off2 + m * 16 + 1, none⟩ = some (.string z.p) := hcsA.out 1 _ rfl
     have HAt := Lib.hid (risAtom_any z A' z.a.length c2 Al l' cl Ad d' cd wz)
     have hed : r.edge (k : Nat) z = ⟨r.p, z.p, if z.k = 2 then 2 else r.kind, (k : Nat)⟩ := rfl
     have hkind : r.kind = if r.agg = true then 3 else if r.makes = true then 4 else 1 := rfl
     clear hcs g3 hnm hL1 hfl
     obtain ⟨ia, hia⟩ : ∃ b, z.isA = b := ⟨_, rfl⟩
     rw [hia] at HAt hnm2
     cases ia
     ·go_wp2_with (first | (show wpList _ _ _ (Oper.mk _ (Op.load 119 _) _ _ _ _ :: _) _ _; refine Go.wpList_load_mid rfl _ _ rfl b2 (off2 + m * 16) rfl (z.cs (.slice A' z.a.length c2) (.slice Al l' cl) (.slice Ad d' cd)) _ hcsA.out Tryz.underlying119 rfl infoLtS ?_))
      refine HAt.out.mono ?_
      rintro e w3 ⟨rfl, f3⟩
      have HJ3 := Lib.hid (show Fut w w3 ∧ w3.heap[w.heap.size]? = some (.cells #[pv] tPr9 (0, 0)) ∧ OwnL 4 w.heap.size tEdge REd w3 u3 (G ++ ((r.b.take (m + 1)).filter Lt.isA).map (r.edge (k : Nat))) ∧ w3.heap[rb]? = some (.cells #[.string r.p, .slice Ah r.h.length ch, bw] tRu9 (0, 0)) from ⟨hJ.out.1.trans f3, f3.block hJ.out.2.1, by rw [hnm2.out, if_neg (by decide), List.append_nil]; exact hJ.out.2.2.1.fut REd.stays f3, f3.block hJ.out.2.2.2⟩)
      clear f3
      go_wp2
      go_roundw
      case rel => exact ⟨m + 1, by omega, by go_num, HJ3⟩
      case measure => simp [intOf] <;> omega
     ·rw [if_pos rfl, hed, hkind] at hnm2
      obtain ⟨mk, hmk⟩ : ∃ g, r.makes = g := ⟨_, rfl⟩
      obtain ⟨ag, hag⟩ : ∃ g, r.agg = g := ⟨_, rfl⟩
      simp only [hmk] at HMK hnm2
      simp only [hag] at HAG hnm2
      clear hmk hag hed hkind hia
      go_wp2_with (first | (show wpList _ _ _ (Oper.mk _ (Op.load 119 _) _ _ _ _ :: _) _ _; refine Go.wpList_load_mid rfl _ _ rfl b2 (off2 + m * 16) rfl (z.cs (.slice A' z.a.length c2) (.slice Al l' cl) (.slice Ad d' cd)) _ hcsA.out Tryz.underlying119 rfl infoLtS ?_))
      refine HAt.out.mono ?_
      rintro e w3 ⟨rfl, f3⟩
      have q0' := f3.cell q0
      have q2' := f3.cell q2
      have u0' := f3.cell u0
      have u1' := f3.cell u1
      go_wp2_with fail
      refine wp_graph 12 [.d, .d, .d, .d, .d, .d, .d, .d, .d, .d, .d, .r (fun v W => ∃ b, v = .pointer (some ⟨b, 0, none⟩) ∧ W.heap[b]? = some (.cells #[.string ⟨#[]⟩, .string ⟨#[]⟩, .int .i8 0, .int .i64 0] tEdge (0, 0)) ∧ w3.heap.size ≤ b)] (by kernel_rfl) (by kernel_rfl) (by kernel_rfl) ?_
      simp only [takS, Exs]
      iterate 11 apply Exists.intro
      apply Run.valG (wanted_none rfl _)
      ·intro w1 h1 hk
       have r0 := h1.cell q0'; have r2 := h1.cell q2'; have r3 := h1.cell u1'; have hg := (Fut.drew _).trans h1
       have hcw := fun b o => Below.cell (p := ⟨b, o, none⟩) h1
       go_simp; rfl
      simp only [actS]
      apply Run.valG (wanted_none rfl _)
      ·intro w1 h1 hk
       have r0 := h1.cell q0'; have r2 := h1.cell q2'; have r3 := h1.cell u1'; have hg := (Fut.drew _).trans h1
       have hcw := fun b o => Below.cell (p := ⟨b, o, none⟩) h1
       go_simp; rfl
      simp only [actS]
      apply Run.valG (wanted_none rfl _)
      ·intro w1 h1 hk
       have r0 := h1.cell q0'; have r2 := h1.cell q2'; have r3 := h1.cell u1'; have hg := (Fut.drew _).trans h1
       have hcw := fun b o => Below.cell (p := ⟨b, o, none⟩) h1
       go_simp; rfl
      simp only [actS]
      apply Run.valG (wanted_none rfl _)
      ·intro w1 h1 hk
       have r0 := h1.cell q0'; have r2 := h1.cell q2'; have r3 := h1.cell u1'; have hg := (Fut.drew _).trans h1
       have hcw := fun b o => Below.cell (p := ⟨b, o, none⟩) h1
       go_simp; rfl
      simp only [actS]
      apply Run.valG (wanted_none rfl _)
      ·intro w1 h1 hk
       have r0 := h1.cell q0'; have r2 := h1.cell q2'; have r3 := h1.cell u1'; have hg := (Fut.drew _).trans h1
       have hcw := fun b o => Below.cell (p := ⟨b, o, none⟩) h1
       go_simp; rfl
      simp only [actS]
      apply Run.valG (wanted_none rfl _)
      ·intro w1 h1 hk
       have r0 := h1.cell q0'; have r2 := h1.cell q2'; have r3 := h1.cell u1'; have hg := (Fut.drew _).trans h1
       have hcw := fun b o => Below.cell (p := ⟨b, o, none⟩) h1
       go_simp; rfl
      simp only [actS]
      apply Run.valG (wanted_none rfl _)
      ·intro w1 h1 hk
       have r0 := h1.cell q0'; have r2 := h1.cell q2'; have r3 := h1.cell u1'; have hg := (Fut.drew _).trans h1
       have hcw := fun b o => Below.cell (p := ⟨b, o, none⟩) h1
       go_simp; rfl
      simp only [actS]
      apply Run.valG (wanted_none rfl _)
      ·intro w1 h1 hk
       have r0 := h1.cell q0'; have r2 := h1.cell q2'; have r3 := h1.cell u1'; have hg := (Fut.drew _).trans h1
       have hcw := fun b o => Below.cell (p := ⟨b, o, none⟩) h1
       go_simp; rfl
      simp only [actS]
      apply Run.valG (wanted_none rfl _)
      ·intro w1 h1 hk
       have r0 := h1.cell q0'; have r2 := h1.cell q2'; have r3 := h1.cell u1'; have hg := (Fut.drew _).trans h1
       have hcw := fun b o => Below.cell (p := ⟨b, o, none⟩) h1
       go_simp; rfl
      simp only [actS]
      apply Run.valG (wanted_none rfl _)
      ·intro w1 h1 hk
       have r0 := h1.cell q0'; have r2 := h1.cell q2'; have r3 := h1.cell u1'; have hg := (Fut.drew _).trans h1
       have hcw := fun b o => Below.cell (p := ⟨b, o, none⟩) h1
       go_simp; rfl
      simp only [actS]
      apply Run.valG (wanted_none rfl _)
      ·intro w1 h1 hk
       have r0 := h1.cell q0'; have r2 := h1.cell q2'; have r3 := h1.cell u1'; have hg := (Fut.drew _).trans h1
       have hcw := fun b o => Below.cell (p := ⟨b, o, none⟩) h1
       go_simp; rfl
      simp only [actS]
      apply Run.valR (wanted_none rfl _) (by intro v w w' hf hs; exact (by obtain ⟨b, g1, g2, g3⟩ := hs; exact ⟨b, g1, hf.block g2, g3⟩))
      ·intro w1 h1 hk
       have r0 := h1.cell q0'; have r2 := h1.cell q2'; have r3 := h1.cell u1'; have hg := (Fut.drew _).trans h1
       go_simp; exact ⟨_, _, ⟨rfl, rfl⟩, Fut.alloc _ _, _, rfl, heap_alloc_new _ _, hg.size⟩
      intro v11
      simp only [actS]
      apply Run.done
      intro w2 h2 hk
      obtain ⟨f11, _⟩ := hk
      obtain ⟨eb, rfl, hbe, hle⟩ := f11
      have FA := f3.trans ((Fut.drew _).trans h2)
      refine wpList_storeM [.string r.p, .string z.p, .int .i8 1, .int .i64 (k : Nat)] rfl _ _ _ rfl rfl rfl hbe (Nat.le_refl 4) infoEdS9 (fun v hv => by
       simp only [List.mem_cons, List.not_mem_nil, or_false] at hv
       rcases hv with rfl | rfl | rfl | rfl <;> rfl) ?_
      intro w4 t2 t3
      have hwz : wz.heap.size ≤ eb := Nat.le_trans f3.size hle
      have FB : Fut wz w4 := ((Only.fut (S := fun k => k = eb) FA).trans t3).toFut fun k hk => by omega
      have hE : E9S w w4 pv u3 L1 rb #[.string r.p, .slice Ah r.h.length ch, bw] eb r.p z.p 1 (k : Nat) := by
       have hFw := hJ.out.1.size
       refine ⟨hJ.out.1.trans FB, FB.block hJ.out.2.1, hJ.out.2.2.1.fut REd.stays FB, FB.block hJ.out.2.2.2, by simpa using t2, fun k hk => ?_, by omega⟩
       have := (hJ.out.2.2.1.block k hk).2
       omega
      have HF := Lib.hid FB
      have HE := Lib.hid hE
      have x0 := cell_at hE.rule 0 (.string r.p) rfl
      have x1 := cell_at hE.rule 1 (.slice Ah r.h.length ch) rfl
      have x2 := cell_at hE.rule 2 bw rfl
      rw [← hbw.out] at x2
      have HMK4 := Lib.hid (HMK.out _ hE.fut)
      clear FA FB hE f3 h2 q0 q2 q0' q2' u0 u1 u0' u1' HAt HMK hcsA hJ t2 t3 hwz hle
      clear hbe
      go_wp2_with fail
      refine HMK4.out.mono ?_
      rintro e w5 ⟨rfl, f5⟩
      have HE5 := Lib.hid (HE.out.later f5)
      have HF5 := Lib.hid (HF.out.trans f5)
      clear f5 HE HF HMK4 x0 x1 x2
      cases mk
      ·cases ag
       ·by_cases hn : z.k = 2
        ·have hkd := Lib.hid (show G ++ ((r.b.take (m + 1)).filter Lt.isA).map (r.edge (k : Nat)) = L1 ++ [⟨r.p, z.p, 2, (k : Nat)⟩] from by rw [hnm2.out, if_pos hn])
         have hi3 := infoKd
         have x0 := cell_at HE5.out.rule 0 (.string r.p) rfl
         have x1 := cell_at HE5.out.rule 1 (.slice Ah r.h.length ch) rfl
         have x2 := cell_at HE5.out.rule 2 bw rfl
         rw [← hbw.out] at x2
         have HC6 := Lib.hid (HAG.out _ HE5.out.fut)
         go_wp2_with fail
         refine HC6.out.mono ?_
         rintro e w6 ⟨rfl, f6⟩
         have HE6 := Lib.hid (HE5.out.later f6)
         clear HC6 x0 x1 x2 f6
         have x2 := cell_at HE6.out.rule 2 bw rfl
         rw [← hbw.out] at x2
         have v0 := HE6.out.fut.cell U0.out
         have s2 := cell_at HE6.out.e 2 _ rfl
         have t2 := free_at HE6.out.e 2
         obtain ⟨y2, hy2⟩ : ∃ W, w6.setCell ⟨eb, 2, none⟩ (.int .i8 2) = W := ⟨_, rfl⟩
         have HY2 := Lib.hid (show E9S w y2 pv u3 L1 rb #[.string r.p, .slice Ah r.h.length ch, bw] eb r.p z.p 2 (k : Nat) from by rw [← hy2]; exact HE6.out.kind 2)
         replace hy2 := Lib.hid hy2
         rw [hn] at v0
         have z0 := cell_at HY2.out.e 0 (.string r.p) rfl
         have z1 := cell_at HY2.out.e 1 (.string z.p) rfl
         have z2 := cell_at HY2.out.e 2 (.int .i8 2) rfl
         have z3 := cell_at HY2.out.e 3 (.int .i64 (k : Nat)) rfl
         obtain ⟨Au, cu, rfl, _, _⟩ := HE6.out.list.rep.form
         have HO9 := Lib.hid (HY2.out.list.fut REd.stays (Fut.alloc _ (.cells #[.string r.p, .string z.p, .int .i8 2, .int .i64 (k : Nat)] tEdge)))
         have hsz9 := HY2.out.fut.size
         go_wp2_with (first | (show wpList _ _ _ (Oper.mk _ (Op.store 90 _ _) _ _ _ _ :: _) _ _; refine wpList_store_1 (wanted_none rfl _) _ _ rfl rfl rfl hi3 rfl s2 t2 hy2.out ?_) | (at_builtin; refine wpList_append_LB (R := REd) (B := w.heap.size) (M := 1) (xs := L1) (ys := [⟨r.p, z.p, 2, (k : Nat)⟩]) (e := 92) (by go_simp) _ _ tEdges rfl Tryz.underlying37 (.agg #[.string ⟨#[]⟩, .string ⟨#[]⟩, .int .i8 0, .int .i64 0]) 48 infoEd rfl (by decide) REd.one REd.keeps rfl rfl HO9.out (edOne _ r.p z.p 2 (k : Nat) _) ?l3 ?l4 ?b3 ?k3))
         case l3 => simp [maxLen]; omega
         case l4 => simp; omega
         case b3 => simp; omega
         case k3 =>
         intro v' w' o' g' sn'
         have HP9 := HY2.out.push o' g'
         have HJ9 := Lib.hid (show Fut w w' ∧ w'.heap[w.heap.size]? = some (.cells #[pv] tPr9 (0, 0)) ∧ OwnL 4 w.heap.size tEdge REd w' v' (G ++ ((r.b.take (m + 1)).filter Lt.isA).map (r.edge (k : Nat))) ∧ w'.heap[rb]? = some (.cells #[.string r.p, .slice Ah r.h.length ch, bw] tRu9 (0, 0)) from ⟨HP9.1, HP9.2.1, by rw [hkd.out]; exact o', HP9.2.2⟩)
         clear o' g' sn' HP9 v0 x2 z0 z1 z2 z3 s2 t2
         go_wp2
         go_roundw
         case rel => exact ⟨m + 1, by omega, by go_num, HJ9⟩
         case measure => simp [intOf] <;> omega
        ·have hkd := Lib.hid (show G ++ ((r.b.take (m + 1)).filter Lt.isA).map (r.edge (k : Nat)) = L1 ++ [⟨r.p, z.p, 1, (k : Nat)⟩] from by rw [hnm2.out, if_neg hn]; rfl)
         have hnb : (z.k == 2) = false := by rw [beq_eq_false_iff_ne]; exact hn
         have hi3 := infoKd
         have x0 := cell_at HE5.out.rule 0 (.string r.p) rfl
         have x1 := cell_at HE5.out.rule 1 (.slice Ah r.h.length ch) rfl
         have x2 := cell_at HE5.out.rule 2 bw rfl
         rw [← hbw.out] at x2
         have HC6 := Lib.hid (HAG.out _ HE5.out.fut)
         go_wp2_with fail
         refine HC6.out.mono ?_
         rintro e w6 ⟨rfl, f6⟩
         have HE6 := Lib.hid (HE5.out.later f6)
         clear HC6 x0 x1 x2 f6
         have x2 := cell_at HE6.out.rule 2 bw rfl
         rw [← hbw.out] at x2
         have v0 := HE6.out.fut.cell U0.out
         have z0 := cell_at HE6.out.e 0 (.string r.p) rfl
         have z1 := cell_at HE6.out.e 1 (.string z.p) rfl
         have z2 := cell_at HE6.out.e 2 (.int .i8 1) rfl
         have z3 := cell_at HE6.out.e 3 (.int .i64 (k : Nat)) rfl
         obtain ⟨Au, cu, rfl, _, _⟩ := HE6.out.list.rep.form
         have HO9 := Lib.hid (HE6.out.list.fut REd.stays (Fut.alloc _ (.cells #[.string r.p, .string z.p, .int .i8 1, .int .i64 (k : Nat)] tEdge)))
         have hsz9 := HE6.out.fut.size
         go_wp2_with (first | (at_builtin; refine wpList_append_LB (R := REd) (B := w.heap.size) (M := 1) (xs := L1) (ys := [⟨r.p, z.p, 1, (k : Nat)⟩]) (e := 92) (by go_simp) _ _ tEdges rfl Tryz.underlying37 (.agg #[.string ⟨#[]⟩, .string ⟨#[]⟩, .int .i8 0, .int .i64 0]) 48 infoEd rfl (by decide) REd.one REd.keeps rfl rfl HO9.out (edOne _ r.p z.p 1 (k : Nat) _) ?l3 ?l4 ?b3 ?k3))
         case l3 => simp [maxLen]; omega
         case l4 => simp; omega
         case b3 => simp; omega
         case k3 =>
         intro v' w' o' g' sn'
         have HP9 := HE6.out.push o' g'
         have HJ9 := Lib.hid (show Fut w w' ∧ w'.heap[w.heap.size]? = some (.cells #[pv] tPr9 (0, 0)) ∧ OwnL 4 w.heap.size tEdge REd w' v' (G ++ ((r.b.take (m + 1)).filter Lt.isA).map (r.edge (k : Nat))) ∧ w'.heap[rb]? = some (.cells #[.string r.p, .slice Ah r.h.length ch, bw] tRu9 (0, 0)) from ⟨HP9.1, HP9.2.1, by rw [hkd.out]; exact o', HP9.2.2⟩)
         clear o' g' sn' HP9 v0 x2 z0 z1 z2 z3
         go_wp2
         go_roundw
         case rel => exact ⟨m + 1, by omega, by go_num, HJ9⟩
         case measure => simp [intOf] <;> omega
       ·by_cases hn : z.k = 2
        ·have hkd := Lib.hid (show G ++ ((r.b.take (m + 1)).filter Lt.isA).map (r.edge (k : Nat)) = L1 ++ [⟨r.p, z.p, 2, (k : Nat)⟩] from by rw [hnm2.out, if_pos hn])
         have hi3 := infoKd
         have x0 := cell_at HE5.out.rule 0 (.string r.p) rfl
         have x1 := cell_at HE5.out.rule 1 (.slice Ah r.h.length ch) rfl
         have x2 := cell_at HE5.out.rule 2 bw rfl
         rw [← hbw.out] at x2
         have HC6 := Lib.hid (HAG.out _ HE5.out.fut)
         go_wp2_with fail
         refine HC6.out.mono ?_
         rintro e w6 ⟨rfl, f6⟩
         have HE6 := Lib.hid (HE5.out.later f6)
         clear HC6 x0 x1 x2 f6
         have s1 := cell_at HE6.out.e 2 _ rfl
         have t1 := free_at HE6.out.e 2
         obtain ⟨y1, hy1⟩ : ∃ W, w6.setCell ⟨eb, 2, none⟩ (.int .i8 3) = W := ⟨_, rfl⟩
         have HY1 := Lib.hid (show E9S w y1 pv u3 L1 rb #[.string r.p, .slice Ah r.h.length ch, bw] eb r.p z.p 3 (k : Nat) from by rw [← hy1]; exact HE6.out.kind 3)
         replace hy1 := Lib.hid hy1
         have x2 := cell_at HY1.out.rule 2 bw rfl
         rw [← hbw.out] at x2
         have v0 := HY1.out.fut.cell U0.out
         have s2 := cell_at HY1.out.e 2 _ rfl
         have t2 := free_at HY1.out.e 2
         obtain ⟨y2, hy2⟩ : ∃ W, y1.setCell ⟨eb, 2, none⟩ (.int .i8 2) = W := ⟨_, rfl⟩
         have HY2 := Lib.hid (show E9S w y2 pv u3 L1 rb #[.string r.p, .slice Ah r.h.length ch, bw] eb r.p z.p 2 (k : Nat) from by rw [← hy2]; exact HY1.out.kind 2)
         replace hy2 := Lib.hid hy2
         rw [hn] at v0
         have z0 := cell_at HY2.out.e 0 (.string r.p) rfl
         have z1 := cell_at HY2.out.e 1 (.string z.p) rfl
         have z2 := cell_at HY2.out.e 2 (.int .i8 2) rfl
         have z3 := cell_at HY2.out.e 3 (.int .i64 (k : Nat)) rfl
         obtain ⟨Au, cu, rfl, _, _⟩ := HE6.out.list.rep.form
         have HO9 := Lib.hid (HY2.out.list.fut REd.stays (Fut.alloc _ (.cells #[.string r.p, .string z.p, .int .i8 2, .int .i64 (k : Nat)] tEdge)))
         have hsz9 := HY2.out.fut.size
         go_wp2_with (first | (show wpList _ _ _ (Oper.mk _ (Op.store 90 _ _) _ _ _ _ :: _) _ _; refine wpList_store_1 (wanted_none rfl _) _ _ rfl rfl rfl hi3 rfl s1 t1 hy1.out ?_) | (show wpList _ _ _ (Oper.mk _ (Op.store 90 _ _) _ _ _ _ :: _) _ _; refine wpList_store_1 (wanted_none rfl _) _ _ rfl rfl rfl hi3 rfl s2 t2 hy2.out ?_) | (at_builtin; refine wpList_append_LB (R := REd) (B := w.heap.size) (M := 1) (xs := L1) (ys := [⟨r.p, z.p, 2, (k : Nat)⟩]) (e := 92) (by go_simp) _ _ tEdges rfl Tryz.underlying37 (.agg #[.string ⟨#[]⟩, .string ⟨#[]⟩, .int .i8 0, .int .i64 0]) 48 infoEd rfl (by decide) REd.one REd.keeps rfl rfl HO9.out (edOne _ r.p z.p 2 (k : Nat) _) ?l3 ?l4 ?b3 ?k3))
         case l3 => simp [maxLen]; omega
         case l4 => simp; omega
         case b3 => simp; omega
         case k3 =>
         intro v' w' o' g' sn'
         have HP9 := HY2.out.push o' g'
         have HJ9 := Lib.hid (show Fut w w' ∧ w'.heap[w.heap.size]? = some (.cells #[pv] tPr9 (0, 0)) ∧ OwnL 4 w.heap.size tEdge REd w' v' (G ++ ((r.b.take (m + 1)).filter Lt.isA).map (r.edge (k : Nat))) ∧ w'.heap[rb]? = some (.cells #[.string r.p, .slice Ah r.h.length ch, bw] tRu9 (0, 0)) from ⟨HP9.1, HP9.2.1, by rw [hkd.out]; exact o', HP9.2.2⟩)
         clear o' g' sn' HP9 v0 x2 z0 z1 z2 z3 s1 t1 s2 t2
         go_wp2
         go_roundw
         case rel => exact ⟨m + 1, by omega, by go_num, HJ9⟩
         case measure => simp [intOf] <;> omega
        ·have hkd := Lib.hid (show G ++ ((r.b.take (m + 1)).filter Lt.isA).map (r.edge (k : Nat)) = L1 ++ [⟨r.p, z.p, 3, (k : Nat)⟩] from by rw [hnm2.out, if_neg hn]; rfl)
         have hnb : (z.k == 2) = false := by rw [beq_eq_false_iff_ne]; exact hn
         have hi3 := infoKd
         have x0 := cell_at HE5.out.rule 0 (.string r.p) rfl
         have x1 := cell_at HE5.out.rule 1 (.slice Ah r.h.length ch) rfl
         have x2 := cell_at HE5.out.rule 2 bw rfl
         rw [← hbw.out] at x2
         have HC6 := Lib.hid (HAG.out _ HE5.out.fut)
         go_wp2_with fail
         refine HC6.out.mono ?_
         rintro e w6 ⟨rfl, f6⟩
         have HE6 := Lib.hid (HE5.out.later f6)
         clear HC6 x0 x1 x2 f6
         have s1 := cell_at HE6.out.e 2 _ rfl
         have t1 := free_at HE6.out.e 2
         obtain ⟨y1, hy1⟩ : ∃ W, w6.setCell ⟨eb, 2, none⟩ (.int .i8 3) = W := ⟨_, rfl⟩
         have HY1 := Lib.hid (show E9S w y1 pv u3 L1 rb #[.string r.p, .slice Ah r.h.length ch, bw] eb r.p z.p 3 (k : Nat) from by rw [← hy1]; exact HE6.out.kind 3)
         replace hy1 := Lib.hid hy1
         have x2 := cell_at HY1.out.rule 2 bw rfl
         rw [← hbw.out] at x2
         have v0 := HY1.out.fut.cell U0.out
         have z0 := cell_at HY1.out.e 0 (.string r.p) rfl
         have z1 := cell_at HY1.out.e 1 (.string z.p) rfl
         have z2 := cell_at HY1.out.e 2 (.int .i8 3) rfl
         have z3 := cell_at HY1.out.e 3 (.int .i64 (k : Nat)) rfl
         obtain ⟨Au, cu, rfl, _, _⟩ := HE6.out.list.rep.form
         have HO9 := Lib.hid (HY1.out.list.fut REd.stays (Fut.alloc _ (.cells #[.string r.p, .string z.p, .int .i8 3, .int .i64 (k : Nat)] tEdge)))
         have hsz9 := HY1.out.fut.size
         go_wp2_with (first | (show wpList _ _ _ (Oper.mk _ (Op.store 90 _ _) _ _ _ _ :: _) _ _; refine wpList_store_1 (wanted_none rfl _) _ _ rfl rfl rfl hi3 rfl s1 t1 hy1.out ?_) | (at_builtin; refine wpList_append_LB (R := REd) (B := w.heap.size) (M := 1) (xs := L1) (ys := [⟨r.p, z.p, 3, (k : Nat)⟩]) (e := 92) (by go_simp) _ _ tEdges rfl Tryz.underlying37 (.agg #[.string ⟨#[]⟩, .string ⟨#[]⟩, .int .i8 0, .int .i64 0]) 48 infoEd rfl (by decide) REd.one REd.keeps rfl rfl HO9.out (edOne _ r.p z.p 3 (k : Nat) _) ?l3 ?l4 ?b3 ?k3))
         case l3 => simp [maxLen]; omega
         case l4 => simp; omega
         case b3 => simp; omega
         case k3 =>
         intro v' w' o' g' sn'
         have HP9 := HY1.out.push o' g'
         have HJ9 := Lib.hid (show Fut w w' ∧ w'.heap[w.heap.size]? = some (.cells #[pv] tPr9 (0, 0)) ∧ OwnL 4 w.heap.size tEdge REd w' v' (G ++ ((r.b.take (m + 1)).filter Lt.isA).map (r.edge (k : Nat))) ∧ w'.heap[rb]? = some (.cells #[.string r.p, .slice Ah r.h.length ch, bw] tRu9 (0, 0)) from ⟨HP9.1, HP9.2.1, by rw [hkd.out]; exact o', HP9.2.2⟩)
         clear o' g' sn' HP9 v0 x2 z0 z1 z2 z3 s1 t1
         go_wp2
         go_roundw
         case rel => exact ⟨m + 1, by omega, by go_num, HJ9⟩
         case measure => simp [intOf] <;> omega
      ·cases ag
       ·by_cases hn : z.k = 2
        ·have hkd := Lib.hid (show G ++ ((r.b.take (m + 1)).filter Lt.isA).map (r.edge (k : Nat)) = L1 ++ [⟨r.p, z.p, 2, (k : Nat)⟩] from by rw [hnm2.out, if_pos hn])
         have hi3 := infoKd
         have s0 := cell_at HE5.out.e 2 _ rfl
         have t0 := free_at HE5.out.e 2
         obtain ⟨y0, hy0⟩ : ∃ W, w5.setCell ⟨eb, 2, none⟩ (.int .i8 4) = W := ⟨_, rfl⟩
         have HY0 := Lib.hid (show E9S w y0 pv u3 L1 rb #[.string r.p, .slice Ah r.h.length ch, bw] eb r.p z.p 4 (k : Nat) from by rw [← hy0]; exact HE5.out.kind 4)
         replace hy0 := Lib.hid hy0
         have x0 := cell_at HY0.out.rule 0 (.string r.p) rfl
         have x1 := cell_at HY0.out.rule 1 (.slice Ah r.h.length ch) rfl
         have x2 := cell_at HY0.out.rule 2 bw rfl
         rw [← hbw.out] at x2
         have HC6 := Lib.hid (HAG.out _ HY0.out.fut)
         go_wp2_with (first | (show wpList _ _ _ (Oper.mk _ (Op.store 90 _ _) _ _ _ _ :: _) _ _; refine wpList_store_1 (wanted_none rfl _) _ _ rfl rfl rfl hi3 rfl s0 t0 hy0.out ?_))
         refine HC6.out.mono ?_
         rintro e w6 ⟨rfl, f6⟩
         have HE6 := Lib.hid (HY0.out.later f6)
         clear HC6 x0 x1 x2 f6 s0 t0
         have x2 := cell_at HE6.out.rule 2 bw rfl
         rw [← hbw.out] at x2
         have v0 := HE6.out.fut.cell U0.out
         have s2 := cell_at HE6.out.e 2 _ rfl
         have t2 := free_at HE6.out.e 2
         obtain ⟨y2, hy2⟩ : ∃ W, w6.setCell ⟨eb, 2, none⟩ (.int .i8 2) = W := ⟨_, rfl⟩
         have HY2 := Lib.hid (show E9S w y2 pv u3 L1 rb #[.string r.p, .slice Ah r.h.length ch, bw] eb r.p z.p 2 (k : Nat) from by rw [← hy2]; exact HE6.out.kind 2)
         replace hy2 := Lib.hid hy2
         rw [hn] at v0
         have z0 := cell_at HY2.out.e 0 (.string r.p) rfl
         have z1 := cell_at HY2.out.e 1 (.string z.p) rfl
         have z2 := cell_at HY2.out.e 2 (.int .i8 2) rfl
         have z3 := cell_at HY2.out.e 3 (.int .i64 (k : Nat)) rfl
         obtain ⟨Au, cu, rfl, _, _⟩ := HE6.out.list.rep.form
         have HO9 := Lib.hid (HY2.out.list.fut REd.stays (Fut.alloc _ (.cells #[.string r.p, .string z.p, .int .i8 2, .int .i64 (k : Nat)] tEdge)))
         have hsz9 := HY2.out.fut.size
         go_wp2_with (first | (show wpList _ _ _ (Oper.mk _ (Op.store 90 _ _) _ _ _ _ :: _) _ _; refine wpList_store_1 (wanted_none rfl _) _ _ rfl rfl rfl hi3 rfl s2 t2 hy2.out ?_) | (at_builtin; refine wpList_append_LB (R := REd) (B := w.heap.size) (M := 1) (xs := L1) (ys := [⟨r.p, z.p, 2, (k : Nat)⟩]) (e := 92) (by go_simp) _ _ tEdges rfl Tryz.underlying37 (.agg #[.string ⟨#[]⟩, .string ⟨#[]⟩, .int .i8 0, .int .i64 0]) 48 infoEd rfl (by decide) REd.one REd.keeps rfl rfl HO9.out (edOne _ r.p z.p 2 (k : Nat) _) ?l3 ?l4 ?b3 ?k3))
         case l3 => simp [maxLen]; omega
         case l4 => simp; omega
         case b3 => simp; omega
         case k3 =>
         intro v' w' o' g' sn'
         have HP9 := HY2.out.push o' g'
         have HJ9 := Lib.hid (show Fut w w' ∧ w'.heap[w.heap.size]? = some (.cells #[pv] tPr9 (0, 0)) ∧ OwnL 4 w.heap.size tEdge REd w' v' (G ++ ((r.b.take (m + 1)).filter Lt.isA).map (r.edge (k : Nat))) ∧ w'.heap[rb]? = some (.cells #[.string r.p, .slice Ah r.h.length ch, bw] tRu9 (0, 0)) from ⟨HP9.1, HP9.2.1, by rw [hkd.out]; exact o', HP9.2.2⟩)
         clear o' g' sn' HP9 v0 x2 z0 z1 z2 z3 s2 t2
         go_wp2
         go_roundw
         case rel => exact ⟨m + 1, by omega, by go_num, HJ9⟩
         case measure => simp [intOf] <;> omega
        ·have hkd := Lib.hid (show G ++ ((r.b.take (m + 1)).filter Lt.isA).map (r.edge (k : Nat)) = L1 ++ [⟨r.p, z.p, 4, (k : Nat)⟩] from by rw [hnm2.out, if_neg hn]; rfl)
         have hnb : (z.k == 2) = false := by rw [beq_eq_false_iff_ne]; exact hn
         have hi3 := infoKd
         have s0 := cell_at HE5.out.e 2 _ rfl
         have t0 := free_at HE5.out.e 2
         obtain ⟨y0, hy0⟩ : ∃ W, w5.setCell ⟨eb, 2, none⟩ (.int .i8 4) = W := ⟨_, rfl⟩
         have HY0 := Lib.hid (show E9S w y0 pv u3 L1 rb #[.string r.p, .slice Ah r.h.length ch, bw] eb r.p z.p 4 (k : Nat) from by rw [← hy0]; exact HE5.out.kind 4)
         replace hy0 := Lib.hid hy0
         have x0 := cell_at HY0.out.rule 0 (.string r.p) rfl
         have x1 := cell_at HY0.out.rule 1 (.slice Ah r.h.length ch) rfl
         have x2 := cell_at HY0.out.rule 2 bw rfl
         rw [← hbw.out] at x2
         have HC6 := Lib.hid (HAG.out _ HY0.out.fut)
         go_wp2_with (first | (show wpList _ _ _ (Oper.mk _ (Op.store 90 _ _) _ _ _ _ :: _) _ _; refine wpList_store_1 (wanted_none rfl _) _ _ rfl rfl rfl hi3 rfl s0 t0 hy0.out ?_))
         refine HC6.out.mono ?_
         rintro e w6 ⟨rfl, f6⟩
         have HE6 := Lib.hid (HY0.out.later f6)
         clear HC6 x0 x1 x2 f6 s0 t0
         have x2 := cell_at HE6.out.rule 2 bw rfl
         rw [← hbw.out] at x2
         have v0 := HE6.out.fut.cell U0.out
         have z0 := cell_at HE6.out.e 0 (.string r.p) rfl
         have z1 := cell_at HE6.out.e 1 (.string z.p) rfl
         have z2 := cell_at HE6.out.e 2 (.int .i8 4) rfl
         have z3 := cell_at HE6.out.e 3 (.int .i64 (k : Nat)) rfl
         obtain ⟨Au, cu, rfl, _, _⟩ := HE6.out.list.rep.form
         have HO9 := Lib.hid (HE6.out.list.fut REd.stays (Fut.alloc _ (.cells #[.string r.p, .string z.p, .int .i8 4, .int .i64 (k : Nat)] tEdge)))
         have hsz9 := HE6.out.fut.size
         go_wp2_with (first | (at_builtin; refine wpList_append_LB (R := REd) (B := w.heap.size) (M := 1) (xs := L1) (ys := [⟨r.p, z.p, 4, (k : Nat)⟩]) (e := 92) (by go_simp) _ _ tEdges rfl Tryz.underlying37 (.agg #[.string ⟨#[]⟩, .string ⟨#[]⟩, .int .i8 0, .int .i64 0]) 48 infoEd rfl (by decide) REd.one REd.keeps rfl rfl HO9.out (edOne _ r.p z.p 4 (k : Nat) _) ?l3 ?l4 ?b3 ?k3))
         case l3 => simp [maxLen]; omega
         case l4 => simp; omega
         case b3 => simp; omega
         case k3 =>
         intro v' w' o' g' sn'
         have HP9 := HE6.out.push o' g'
         have HJ9 := Lib.hid (show Fut w w' ∧ w'.heap[w.heap.size]? = some (.cells #[pv] tPr9 (0, 0)) ∧ OwnL 4 w.heap.size tEdge REd w' v' (G ++ ((r.b.take (m + 1)).filter Lt.isA).map (r.edge (k : Nat))) ∧ w'.heap[rb]? = some (.cells #[.string r.p, .slice Ah r.h.length ch, bw] tRu9 (0, 0)) from ⟨HP9.1, HP9.2.1, by rw [hkd.out]; exact o', HP9.2.2⟩)
         clear o' g' sn' HP9 v0 x2 z0 z1 z2 z3
         go_wp2
         go_roundw
         case rel => exact ⟨m + 1, by omega, by go_num, HJ9⟩
         case measure => simp [intOf] <;> omega
       ·by_cases hn : z.k = 2
        ·have hkd := Lib.hid (show G ++ ((r.b.take (m + 1)).filter Lt.isA).map (r.edge (k : Nat)) = L1 ++ [⟨r.p, z.p, 2, (k : Nat)⟩] from by rw [hnm2.out, if_pos hn])
         have hi3 := infoKd
         have s0 := cell_at HE5.out.e 2 _ rfl
         have t0 := free_at HE5.out.e 2
         obtain ⟨y0, hy0⟩ : ∃ W, w5.setCell ⟨eb, 2, none⟩ (.int .i8 4) = W := ⟨_, rfl⟩
         have HY0 := Lib.hid (show E9S w y0 pv u3 L1 rb #[.string r.p, .slice Ah r.h.length ch, bw] eb r.p z.p 4 (k : Nat) from by rw [← hy0]; exact HE5.out.kind 4)
         replace hy0 := Lib.hid hy0
         have x0 := cell_at HY0.out.rule 0 (.string r.p) rfl
         have x1 := cell_at HY0.out.rule 1 (.slice Ah r.h.length ch) rfl
         have x2 := cell_at HY0.out.rule 2 bw rfl
         rw [← hbw.out] at x2
         have HC6 := Lib.hid (HAG.out _ HY0.out.fut)
         go_wp2_with (first | (show wpList _ _ _ (Oper.mk _ (Op.store 90 _ _) _ _ _ _ :: _) _ _; refine wpList_store_1 (wanted_none rfl _) _ _ rfl rfl rfl hi3 rfl s0 t0 hy0.out ?_))
         refine HC6.out.mono ?_
         rintro e w6 ⟨rfl, f6⟩
         have HE6 := Lib.hid (HY0.out.later f6)
         clear HC6 x0 x1 x2 f6 s0 t0
         have s1 := cell_at HE6.out.e 2 _ rfl
         have t1 := free_at HE6.out.e 2
         obtain ⟨y1, hy1⟩ : ∃ W, w6.setCell ⟨eb, 2, none⟩ (.int .i8 3) = W := ⟨_, rfl⟩
         have HY1 := Lib.hid (show E9S w y1 pv u3 L1 rb #[.string r.p, .slice Ah r.h.length ch, bw] eb r.p z.p 3 (k : Nat) from by rw [← hy1]; exact HE6.out.kind 3)
         replace hy1 := Lib.hid hy1
         have x2 := cell_at HY1.out.rule 2 bw rfl
         rw [← hbw.out] at x2
         have v0 := HY1.out.fut.cell U0.out
         have s2 := cell_at HY1.out.e 2 _ rfl
         have t2 := free_at HY1.out.e 2
         obtain ⟨y2, hy2⟩ : ∃ W, y1.setCell ⟨eb, 2, none⟩ (.int .i8 2) = W := ⟨_, rfl⟩
         have HY2 := Lib.hid (show E9S w y2 pv u3 L1 rb #[.string r.p, .slice Ah r.h.length ch, bw] eb r.p z.p 2 (k : Nat) from by rw [← hy2]; exact HY1.out.kind 2)
         replace hy2 := Lib.hid hy2
         rw [hn] at v0
         have z0 := cell_at HY2.out.e 0 (.string r.p) rfl
         have z1 := cell_at HY2.out.e 1 (.string z.p) rfl
         have z2 := cell_at HY2.out.e 2 (.int .i8 2) rfl
         have z3 := cell_at HY2.out.e 3 (.int .i64 (k : Nat)) rfl
         obtain ⟨Au, cu, rfl, _, _⟩ := HE6.out.list.rep.form
         have HO9 := Lib.hid (HY2.out.list.fut REd.stays (Fut.alloc _ (.cells #[.string r.p, .string z.p, .int .i8 2, .int .i64 (k : Nat)] tEdge)))
         have hsz9 := HY2.out.fut.size
         go_wp2_with (first | (show wpList _ _ _ (Oper.mk _ (Op.store 90 _ _) _ _ _ _ :: _) _ _; refine wpList_store_1 (wanted_none rfl _) _ _ rfl rfl rfl hi3 rfl s1 t1 hy1.out ?_) | (show wpList _ _ _ (Oper.mk _ (Op.store 90 _ _) _ _ _ _ :: _) _ _; refine wpList_store_1 (wanted_none rfl _) _ _ rfl rfl rfl hi3 rfl s2 t2 hy2.out ?_) | (at_builtin; refine wpList_append_LB (R := REd) (B := w.heap.size) (M := 1) (xs := L1) (ys := [⟨r.p, z.p, 2, (k : Nat)⟩]) (e := 92) (by go_simp) _ _ tEdges rfl Tryz.underlying37 (.agg #[.string ⟨#[]⟩, .string ⟨#[]⟩, .int .i8 0, .int .i64 0]) 48 infoEd rfl (by decide) REd.one REd.keeps rfl rfl HO9.out (edOne _ r.p z.p 2 (k : Nat) _) ?l3 ?l4 ?b3 ?k3))
         case l3 => simp [maxLen]; omega
         case l4 => simp; omega
         case b3 => simp; omega
         case k3 =>
         intro v' w' o' g' sn'
         have HP9 := HY2.out.push o' g'
         have HJ9 := Lib.hid (show Fut w w' ∧ w'.heap[w.heap.size]? = some (.cells #[pv] tPr9 (0, 0)) ∧ OwnL 4 w.heap.size tEdge REd w' v' (G ++ ((r.b.take (m + 1)).filter Lt.isA).map (r.edge (k : Nat))) ∧ w'.heap[rb]? = some (.cells #[.string r.p, .slice Ah r.h.length ch, bw] tRu9 (0, 0)) from ⟨HP9.1, HP9.2.1, by rw [hkd.out]; exact o', HP9.2.2⟩)
         clear o' g' sn' HP9 v0 x2 z0 z1 z2 z3 s1 t1 s2 t2
         go_wp2
         go_roundw
         case rel => exact ⟨m + 1, by omega, by go_num, HJ9⟩
         case measure => simp [intOf] <;> omega
        ·have hkd := Lib.hid (show G ++ ((r.b.take (m + 1)).filter Lt.isA).map (r.edge (k : Nat)) = L1 ++ [⟨r.p, z.p, 3, (k : Nat)⟩] from by rw [hnm2.out, if_neg hn]; rfl)
         have hnb : (z.k == 2) = false := by rw [beq_eq_false_iff_ne]; exact hn
         have hi3 := infoKd
         have s0 := cell_at HE5.out.e 2 _ rfl
         have t0 := free_at HE5.out.e 2
         obtain ⟨y0, hy0⟩ : ∃ W, w5.setCell ⟨eb, 2, none⟩ (.int .i8 4) = W := ⟨_, rfl⟩
         have HY0 := Lib.hid (show E9S w y0 pv u3 L1 rb #[.string r.p, .slice Ah r.h.length ch, bw] eb r.p z.p 4 (k : Nat) from by rw [← hy0]; exact HE5.out.kind 4)
         replace hy0 := Lib.hid hy0
         have x0 := cell_at HY0.out.rule 0 (.string r.p) rfl
         have x1 := cell_at HY0.out.rule 1 (.slice Ah r.h.length ch) rfl
         have x2 := cell_at HY0.out.rule 2 bw rfl
         rw [← hbw.out] at x2
         have HC6 := Lib.hid (HAG.out _ HY0.out.fut)
         go_wp2_with (first | (show wpList _ _ _ (Oper.mk _ (Op.store 90 _ _) _ _ _ _ :: _) _ _; refine wpList_store_1 (wanted_none rfl _) _ _ rfl rfl rfl hi3 rfl s0 t0 hy0.out ?_))
         refine HC6.out.mono ?_
         rintro e w6 ⟨rfl, f6⟩
         have HE6 := Lib.hid (HY0.out.later f6)
         clear HC6 x0 x1 x2 f6 s0 t0
         have s1 := cell_at HE6.out.e 2 _ rfl
         have t1 := free_at HE6.out.e 2
         obtain ⟨y1, hy1⟩ : ∃ W, w6.setCell ⟨eb, 2, none⟩ (.int .i8 3) = W := ⟨_, rfl⟩
         have HY1 := Lib.hid (show E9S w y1 pv u3 L1 rb #[.string r.p, .slice Ah r.h.length ch, bw] eb r.p z.p 3 (k : Nat) from by rw [← hy1]; exact HE6.out.kind 3)
         replace hy1 := Lib.hid hy1
         have x2 := cell_at HY1.out.rule 2 bw rfl
         rw [← hbw.out] at x2
         have v0 := HY1.out.fut.cell U0.out
         have z0 := cell_at HY1.out.e 0 (.string r.p) rfl
         have z1 := cell_at HY1.out.e 1 (.string z.p) rfl
         have z2 := cell_at HY1.out.e 2 (.int .i8 3) rfl
         have z3 := cell_at HY1.out.e 3 (.int .i64 (k : Nat)) rfl
         obtain ⟨Au, cu, rfl, _, _⟩ := HE6.out.list.rep.form
         have HO9 := Lib.hid (HY1.out.list.fut REd.stays (Fut.alloc _ (.cells #[.string r.p, .string z.p, .int .i8 3, .int .i64 (k : Nat)] tEdge)))
         have hsz9 := HY1.out.fut.size
         go_wp2_with (first | (show wpList _ _ _ (Oper.mk _ (Op.store 90 _ _) _ _ _ _ :: _) _ _; refine wpList_store_1 (wanted_none rfl _) _ _ rfl rfl rfl hi3 rfl s1 t1 hy1.out ?_) | (at_builtin; refine wpList_append_LB (R := REd) (B := w.heap.size) (M := 1) (xs := L1) (ys := [⟨r.p, z.p, 3, (k : Nat)⟩]) (e := 92) (by go_simp) _ _ tEdges rfl Tryz.underlying37 (.agg #[.string ⟨#[]⟩, .string ⟨#[]⟩, .int .i8 0, .int .i64 0]) 48 infoEd rfl (by decide) REd.one REd.keeps rfl rfl HO9.out (edOne _ r.p z.p 3 (k : Nat) _) ?l3 ?l4 ?b3 ?k3))
         case l3 => simp [maxLen]; omega
         case l4 => simp; omega
         case b3 => simp; omega
         case k3 =>
         intro v' w' o' g' sn'
         have HP9 := HY1.out.push o' g'
         have HJ9 := Lib.hid (show Fut w w' ∧ w'.heap[w.heap.size]? = some (.cells #[pv] tPr9 (0, 0)) ∧ OwnL 4 w.heap.size tEdge REd w' v' (G ++ ((r.b.take (m + 1)).filter Lt.isA).map (r.edge (k : Nat))) ∧ w'.heap[rb]? = some (.cells #[.string r.p, .slice Ah r.h.length ch, bw] tRu9 (0, 0)) from ⟨HP9.1, HP9.2.1, by rw [hkd.out]; exact o', HP9.2.2⟩)
         clear o' g' sn' HP9 v0 x2 z0 z1 z2 z3 s1 t1
         go_wp2
         go_roundw
         case rel => exact ⟨m + 1, by omega, by go_num, HJ9⟩
         case measure => simp [intOf] <;> omega
    ·obtain rfl : m = r.b.length := by omega
     have HK := Lib.hid (show Fut w wz ∧ wz.heap[w.heap.size]? = some (.cells #[pv] tPr9 (0, 0)) ∧ OwnL 4 w.heap.size tEdge REd wz u3 (edgesP (rs.take (k + 1))) from ⟨hJ.out.1, hJ.out.2.1, by rw [hnx.out]; exact hJ.out.2.2.1⟩)
     clear hJ
     go_wp2
     go_roundw
     case rel => exact ⟨k + 1, by omega, by go_num, HK⟩
     case measure => simp [intOf] <;> omega
  ·obtain rfl : k = rs.length := by omega
   rw [List.take_length] at hI
   go_wp2
   go_ret
   exact ⟨_, rfl, hI.out.2.2, hI.out.1⟩
end Go.Proofs.YtdjffkkbjbiihaaGreatDoor
