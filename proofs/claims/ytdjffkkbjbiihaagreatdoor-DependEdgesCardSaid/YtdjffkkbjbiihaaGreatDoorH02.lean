/- Parts. -/
import Derived.Test.YtdjffkkbjbiihaaGreatDoorH01
set_option linter.unusedSimpArgs false
set_option linter.unusedVariables false
namespace Go.Proofs.YtdjffkkbjbiihaaGreatDoor
open Go.RowKit Go.WideMaps
def markEdgeP (m : Int) : Ed := ⟨⟨#[]⟩, ⟨#[]⟩, 0, negN m⟩
theorem REd.same : ∀ (w w' : World) cs (x : Ed), REd w cs x → REd w' cs x := fun _ _ _ _ h => h
theorem oneEdge (w : World) (m : Int) : ∀ v ∈ (#[.string ⟨#[]⟩, .string ⟨#[]⟩, .int .i8 0, .int .i64 (negN m)] : Array Value).toList, v.oneCell' = true := fun v hv => REd.one w _ (markEdgeP m) rfl v hv
theorem sizeEdge (m : Int) : (Tryz.prog.info? 92).map (·.size) = some (#[.string ⟨#[]⟩, .string ⟨#[]⟩, .int .i8 0, .int .i64 (negN m)] : Array Value).toList.length := by kernel_rfl
theorem atEdge_mark {w : World} {A : Option Addr} {n cap M N : Nat} {m : Int} (h : SlRep 4 M REd w (.slice A n cap) (List.replicate N (markEdgeP m))) {k : Nat} (hk : k < N) : ∃ b off, A = some ⟨b, off, none⟩ ∧ w.rangeAt b (off + k * 4) (#[.string ⟨#[]⟩, .string ⟨#[]⟩, .int .i8 0, .int .i64 (negN m)] : Array Value).toList := by
 obtain ⟨A1, cap1, hv, _, _, h3⟩ := h
 obtain ⟨b, off, cs, hA, hl, hc, hr⟩ := h3 k (markEdgeP m) (by rw [List.getElem?_replicate, if_pos hk])
 injection hv with hv _ _
 refine ⟨b, off, hv.trans hA, fun j c hj => ?_⟩
 obtain rfl : cs = _ := hr
 rw [Nat.add_assoc]
 exact hc j c hj
set_option maxRecDepth 100000 in
theorem markEdge_any (n : Int) (w : World) : Calls Tryz.prog 115 #[.int .i64 n] w fun e w' => e = .returned (.agg #[.string ⟨#[]⟩, .string ⟨#[]⟩, .int .i8 0, .int .i64 (negN n)]) ∧ Fut w w' := by
 have hm : wrap64 (-n) = negN n := rfl
 generalize negN n = y at hm
 go_enter Tryz.func115, Tryz.ntmps115
 go_wp2
 exact bodyPost_ret (v := .agg #[.string ⟨#[]⟩, .string ⟨#[]⟩, .int .i8 0, .int .i64 y]) (by simp [results, Tryz.results115, go_sem]) rfl ⟨rfl, Fut.alloc _ _⟩
set_option maxRecDepth 100000 in
theorem isEdge_any (n : Int) (w : World) : Calls Tryz.prog 233 #[.agg #[.string ⟨#[]⟩, .string ⟨#[]⟩, .int .i8 0, .int .i64 (negN n)], .int .i64 n] w fun e w' => e = .returned (.bool true) ∧ Fut w w' := by
 have hm : wrap64 (-n) = negN n := rfl
 generalize negN n = y at hm
 go_enter Tryz.func233, Tryz.ntmps233
 go_wp2
 go_ret
 exact ⟨by simp, Fut.alloc _ _⟩
set_option maxHeartbeats 1600000 in
set_option maxRecDepth 100000 in
theorem fillEdge_any {B : Nat} {w : World} {b : Nat} {v : Value} {hs : List Hd} {f : Nat → List Ed} (hc : w.cell? ⟨b, 20, none⟩ = some v) (hH : OwnL 3 B 157 RH w v hs) (hL : Lists 4 B 92 REd w hs f)
  (hb : ¬ ownsL hs b) (hv : ∀ k, v.ownBlock = some k → ¬ ownsL hs k) :
  Calls Tryz.prog 59 #[.pointer (some ⟨b, 0, none⟩)] w fun e w' => (∃ u, e = .returned u) ∧ Lists 4 B 92 REd w' hs (markF markEdgeP hs f) ∧ Only (ownsL hs) w w' := by
 have HH := Lib.hid hH
 have HL := Lib.hid hL
 have HV := Lib.hid hv
 have hB0 : b < w.heap.size := lt_of_cell hc
 obtain ⟨A, cap, rfl, hcl, hcm⟩ := hH.rep.form
 have hml : hs.length ≤ 9223372036854775807 := Nat.le_trans hcl hcm
 clear hH hL hv
 go_enter Tryz.func59, Tryz.ntmps59
 go_wp2_with fail
 go_loopw [2] (fun i wr => ∃ k : Nat, k ≤ hs.length ∧ i = .int .i64 k ∧ Hid (Lists 4 B 92 REd wr hs (upTo k (markF markEdgeP hs f) f)) ∧ Hid (Only (ownsL hs) w wr)) (fun i _ => hs.length - (intOf i).toNat)
 case atStart => exact ⟨0, Nat.zero_le _, rfl, Lib.hid (HL.out.cong fun i _ => (by unfold upTo; rw [if_neg (by omega)])), Lib.hid (Only.refl _)⟩
 case round =>
  obtain ⟨k, hk, rfl, hL, hO⟩ := hrel
  have cw := hO.out.cell hc hb
  by_cases hlt : k < hs.length
  ·have hltI : (k : Int) < hs.length := by omega
   have e1 : (0 : Int) ≤ k ∧ (k : Int) < hs.length := by omega
   have e3 : IntKind.i64.wrap ((k : Int) + 1) = ((k + 1 : Nat) : Int) := by rw [IntKind.wrap_i64]; omega
   obtain ⟨gv, ov, l, long, m, rfl, hkk, d0, d1, d2, ⟨A1, n1, c1, rfl⟩, A2, n2, c2, rfl⟩ := held_at ((HH.out.only (RH.same w wr) hO.out HV.out).rep) hlt
   have hE := hL.out.each k _ hkk
   have hfk : upTo k (markF markEdgeP hs f) f k = f k := by unfold upTo; rw [if_neg (by omega)]
   rw [hfk] at hE
   obtain ⟨_, _, hn1, hn1c, hn1m⟩ := hE.rep.form
   obtain rfl : n1 = (f k).length := by injection hn1
   have hml1 : (f k).length ≤ 9223372036854775807 := Nat.le_trans hn1c hn1m
   clear hn1
   have HE := Lib.hid hE
   clear hE
   go_wp2_with fail
   have h3 := heap_alloc_new wr (.cells #[.slice A1 (f k).length c1, .slice A2 n2 c2, .int .i64 m] 157)
   have F1 := Fut.alloc wr (.cells #[.slice A1 (f k).length c1, .slice A2 n2 c2, .int .i64 m] 157)
   obtain ⟨w1, hw1⟩ : ∃ W, wr.alloc (.cells #[.slice A1 (f k).length c1, .slice A2 n2 c2, .int .i64 m] 157) = W := ⟨_, rfl⟩
   rw [hw1] at h3 F1 ⊢
   clear hw1
   have HE1 := Lib.hid (HE.out.fut (fun _ _ _ _ _ h => h) F1)
   have hbl := HE.out.block
   have F1' := Lib.hid F1
   clear F1
   go_loopw [4] (fun i wq => ∃ q : Nat, q ≤ (f k).length ∧ i = .int .i64 q ∧ Hid (OwnL 4 B 92 REd wq (.slice A1 (f k).length c1) (List.replicate q (markEdgeP m) ++ (f k).drop q)) ∧ Hid (Only (fun j => (Value.slice A1 (f k).length c1).ownBlock = some j) w1 wq)) (fun i _ => (f k).length - (intOf i).toNat)
   case atStart => exact ⟨0, Nat.zero_le _, rfl, HE1, Lib.hid (Only.refl _)⟩
   case round =>
    obtain ⟨q, hq, rfl, hE2, hO2⟩ := hrel
    have b3 := hO2.out.keeps h3 (fun h => by have := (hbl _ h).2; omega)
    have t0 := cell_at b3 0 (.slice A1 (f k).length c1) rfl
    have t2 := cell_at b3 2 (.int .i64 m) rfl
    by_cases hql : q < (f k).length
    ·have hqI : (q : Int) < (f k).length := by omega
     have e2 : (0 : Int) ≤ q ∧ (q : Int) < (f k).length := by omega
     have e4 : IntKind.i64.wrap ((q : Int) + 1) = ((q + 1 : Nat) : Int) := by rw [IntKind.wrap_i64]; omega
     have hll : (List.replicate q (markEdgeP m) ++ (f k).drop q).length = (f k).length := by rw [List.length_append, List.length_replicate, List.length_drop]; omega
     obtain ⟨g, arr, rfl, hlx, hg, hsz⟩ := hE2.out.arr (q := q) (by rw [hll]; exact hql)
     clear hlx hll
     go_wp2_with fail
     refine wp_graph 6 [.d, .d, .d, .d, .d, .d] (by kernel_rfl) (by kernel_rfl) (by kernel_rfl) ?_
     simp only [takS, Exs]
     iterate 6 apply Exists.intro
     apply Run.valG (wanted_none rfl _)
     ·intro w1 h1 hk
      have q0 := h1.cell t0; have q2 := h1.cell t2
      have hcw := fun b o => Below.cell (p := ⟨b, o, none⟩) h1
      go_simp; rfl
     simp only [actS]
     apply Run.valG (wanted_none rfl _)
     ·intro w1 h1 hk
      have q0 := h1.cell t0; have q2 := h1.cell t2
      have hcw := fun b o => Below.cell (p := ⟨b, o, none⟩) h1
      go_simp; rfl
     simp only [actS]
     apply Run.valG (wanted_none rfl _)
     ·intro w1 h1 hk
      have q0 := h1.cell t0; have q2 := h1.cell t2
      have hcw := fun b o => Below.cell (p := ⟨b, o, none⟩) h1
      go_simp; rfl
     simp only [actS]
     apply Run.valG (wanted_none rfl _)
     ·intro w1 h1 hk
      have q0 := h1.cell t0; have q2 := h1.cell t2
      have hcw := fun b o => Below.cell (p := ⟨b, o, none⟩) h1
      go_simp; rfl
     simp only [actS]
     apply Run.valG (wanted_none rfl _)
     ·intro w1 h1 hk
      have q0 := h1.cell t0; have q2 := h1.cell t2
      have hcw := fun b o => Below.cell (p := ⟨b, o, none⟩) h1
      go_simp; rfl
     simp only [actS]
     apply Run.call (wanted_none rfl _) (fun _ _ => by go_simp; exact ⟨rfl, rfl⟩)
     ·intro w1 h1 hk
      have q0 := h1.cell t0; have q2 := h1.cell t2
      refine (markEdge_any m _).mono ?_; rintro e w' ⟨rfl, hf⟩; exact ⟨rfl, hf⟩
     simp only [actS]
     apply Run.done
     intro w2 h2 hk
     clear hk
     have F2 := (Fut.drew _).trans h2
     have hg2 := F2.block hg
     have hsz' : q * 4 + (#[.string ⟨#[]⟩, .string ⟨#[]⟩, .int .i8 0, .int .i64 (negN m)] : Array Value).toList.length ≤ arr.size := hsz
     have hon := oneEdge w m
     have hi3 := sizeEdge m
     go_wp2_with (first | (refine wpList_storeW (e := 92) (cs := (#[.string ⟨#[]⟩, .string ⟨#[]⟩, .int .i8 0, .int .i64 (negN m)] : Array Value).toList) (wanted_none rfl _) _ _ rfl rfl rfl hg2 hsz' hi3 hon ?_; intro arr' harr'))
     have OS : Only (fun j => j = g) w2 (w2.putObj g (.cells arr' 92 (0, 0))) := Only.put _ _ rfl
     have hgl := (Array.getElem?_eq_some_iff.1 hg2).1
     have hW := (hE2.out.fut REd.stays F2).write hg2 (World.putObj_heap_same hgl) (k := q) (by rw [List.length_append, List.length_replicate, List.length_drop]; omega) (cs := (#[.string ⟨#[]⟩, .string ⟨#[]⟩, .int .i8 0, .int .i64 (negN m)] : Array Value).toList) (y := markEdgeP m) harr' rfl rfl (fun cs x h => h)
     rw [mark_set hql] at hW
     go_roundw
     case rel => exact ⟨q + 1, by omega, by go_num, Lib.hid hW, Lib.hid (hO2.out.trans ((Only.fut F2).trans (OS.mono fun j _ hj => by have hj' : j = g := hj; rw [hj']; rfl)))⟩
     case measure => simp [intOf] <;> omega
    ·obtain rfl : q = (f k).length := by omega
     have hE3 := hE2.out
     rw [List.drop_length, List.append_nil] at hE3
     have hf := (Only.fut F1'.out).trans hO2.out
     have HE3 := Lib.hid hE3
     have HF := Lib.hid hf
     clear hE3 hf hE2 hO2
     go_wp2
     go_roundw
     case rel => exact ⟨k + 1, by omega, by go_num, Lib.hid (hL.out.step REd.same hkk HF.out HE3.out (markF_at hkk)), Lib.hid (hO.out.trans (HF.out.mono fun j _ hj => ⟨k, _, hkk, hj⟩))⟩
     case measure => simp [intOf] <;> omega
  ·obtain rfl : k = hs.length := by omega
   go_wp2
   go_end0
   exact ⟨⟨_, rfl⟩, hL.out.cong fun i hi => (by unfold upTo; rw [if_pos hi]), hO.out⟩
set_option maxHeartbeats 1600000 in
set_option maxRecDepth 100000 in
theorem growEdge_any {B : Nat} {w : World} {b : Nat} {v : Value} {hs : List Hd} {ns : Nat → Nat} (hc : w.cell? ⟨b, 20, none⟩ = some v) (hH : OwnL 3 B 157 RH w v hs) (hL : Lists 4 B 92 REd w hs (fun i => List.replicate (ns i) (markEdgeP ((hs.getD i ⟨.slice none 0 0, .slice none 0 0, 0⟩).n))))
  (hb : ¬ ownsL hs b) (hvb : v.ownBlock ≠ some b) (hv : ∀ k, v.ownBlock = some k → ¬ ownsL hs k) (hB : B ≤ w.heap.size) (hns : ∀ i, i < hs.length → ns i + 70 ≤ 2932031007402) :
  Calls Tryz.prog 146 #[.pointer (some ⟨b, 0, none⟩)] w fun e w' => (∃ u, e = .returned u) ∧ ∃ hs', Grow 4 B 92 157 REd markEdgeP w v hs ns hs.length w' hs' := by
 have hlow : ∀ x, ownsL hs x → x < w.heap.size := fun x hx => (hL.lt x hx).2
 have hvw : ∀ x, v.ownBlock = some x → x < w.heap.size ∧ ¬ ownsL hs x := fun x hx => ⟨(hH.block x hx).2, hv x hx⟩
 have G0 : Grow 4 B 92 157 REd markEdgeP w v hs ns 0 w hs := ⟨hH, rfl, fun _ _ => rfl, fun i h hi => absurd hi (by omega), fun i h _ hi => (by
  have h1 := hL.each i h hi
  have h2 : hs.getD i ⟨.slice none 0 0, .slice none 0 0, 0⟩ = h := by rw [List.getD_eq_getElem?_getD, hi]; rfl
  simp only [h2] at h1
  exact h1), Only.refl _⟩
 have HG0 := Lib.hid G0
 have HA := Lib.hid hL.apart
 have HLO := Lib.hid hlow
 have HV := Lib.hid hvw
 have HNS := Lib.hid hns
 have hB0 : b < w.heap.size := lt_of_cell hc
 have hcb : ¬ (ownsL hs b ∨ v.ownBlock = some b) := fun h => h.elim hb hvb
 obtain ⟨A, cap, rfl, hcl, hcm⟩ := hH.rep.form
 have hml : hs.length ≤ 9223372036854775807 := Nat.le_trans hcl hcm
 clear hH hL hv hlow hvw G0 hns
 go_enter Tryz.func146, Tryz.ntmps146
 go_wp2_with fail
 go_loopw [2] (fun i wr => ∃ k : Nat, k ≤ hs.length ∧ i = .int .i64 k ∧ Hid (∃ hs', Grow 4 B 92 157 REd markEdgeP w (.slice A hs.length cap) hs ns k wr hs')) (fun i _ => hs.length - (intOf i).toNat)
 case atStart => exact ⟨0, Nat.zero_le _, rfl, Lib.hid ⟨_, HG0.out⟩⟩
 case round =>
  obtain ⟨k, hk, rfl, hG⟩ := hrel
  obtain ⟨hs', hG⟩ := hG.out
  have cw := hG.only.cell hc hcb
  have hws := hG.only.size
  by_cases hlt : k < hs.length
  ·have hltI : (k : Int) < hs.length := by omega
   have e1 : (0 : Int) ≤ k ∧ (k : Int) < hs.length := by omega
   have e3 : IntKind.i64.wrap ((k : Int) + 1) = ((k + 1 : Nat) : Int) := by rw [IntKind.wrap_i64]; omega
   obtain ⟨gv, ov, l, long, m, rfl, hkk, d0, d1, d2, ⟨A1, n1, c1, rfl⟩, A2, n2, c2, rfl⟩ := held_at hG.held.rep (k := k) (by rw [hG.len]; exact hlt)
   have hkk' := hkk
   rw [hG.rest k (Nat.le_refl _)] at hkk
   have hE := hG.todo k _ (Nat.le_refl _) hkk
   obtain ⟨Aq, cq, hn1, hn1c, hn1m⟩ := hE.rep.form
   rw [List.length_replicate] at hn1 hn1c
   obtain rfl : n1 = ns k := by injection hn1
   clear hn1
   have hnk := HNS.out k hlt
   have hat0 := hE.at0
   obtain ⟨gv', arrv, hgv', hlx, hgv, hszv⟩ := hG.held.arr (q := k) (by rw [hG.len]; exact hlt)
   injection hgv' with hgv'
   injection hgv' with q1 q2
   subst q1 q2
   rw [Nat.zero_add] at d0 d1 d2
   have HE := Lib.hid hE
   have HG := Lib.hid hG
   clear hE hG hlx
   go_wp2_with fail
   have h3 := heap_alloc_new wr (.cells #[.slice A1 (ns k) c1, .slice A2 n2 c2, .int .i64 m] 157)
   have F1 := Fut.alloc wr (.cells #[.slice A1 (ns k) c1, .slice A2 n2 c2, .int .i64 m] 157)
   obtain ⟨w1, hw1⟩ : ∃ W, wr.alloc (.cells #[.slice A1 (ns k) c1, .slice A2 n2 c2, .int .i64 m] 157) = W := ⟨_, rfl⟩
   rw [hw1] at h3 F1 ⊢
   clear hw1
   have HE1 := Lib.hid (HE.out.fut REd.stays F1)
   have hbl := HE.out.block
   have hs1 := F1.size
   have F1' := Lib.hid F1
   have HL1 := Lib.hid (HE1.out.rep)
   clear F1
   go_loopw [4, 5] (fun L i wq => ∃ q : Nat, q ≤ 70 ∧ i = .int .i64 q ∧ Hid (OwnL 4 B 92 REd wq L (List.replicate (ns k + q) (markEdgeP m))) ∧ Hid (SlRep 4 maxLen REd wq (.slice A1 (ns k) c1) (List.replicate (ns k) (markEdgeP m))) ∧ Hid (∀ x, L.ownBlock = some x → (Value.slice A1 (ns k) c1).ownBlock = some x ∨ w1.heap.size ≤ x) ∧ Hid (Only (fun j => (Value.slice A1 (ns k) c1).ownBlock = some j) w1 wq)) (fun _ i _ => 70 - (intOf i).toNat)
   case atStart => exact ⟨0, Nat.zero_le _, rfl, HE1, HL1, Lib.hid (fun x hx => .inl hx), Lib.hid (Only.refl _)⟩
   case round =>
    obtain ⟨q, hq, rfl, hL2, hS2, hB2, hO2⟩ := hrel
    have b3 := hO2.out.keeps h3 (fun h => by have := (hbl _ h).2; omega)
    have t2 := cell_at b3 2 (.int .i64 m) rfl
    have hs2 := hO2.out.size
    by_cases hql : q < 70
    ·have hqI : (q : Int) < 70 := by omega
     have e4 : IntKind.i64.wrap ((q : Int) + 1) = ((q + 1 : Nat) : Int) := by rw [IntKind.wrap_i64]; omega
     go_wp2_with fail
     refine (markEdge_any m _).mono ?_
     rintro e wm ⟨rfl, hfm⟩
     have hOa := hL2.out.fut REd.stays (hfm.trans (Fut.alloc wm (.cells #[.string ⟨#[]⟩, .string ⟨#[]⟩, .int .i8 0, .int .i64 (negN m)] 92)))
     have hba := heap_alloc_new wm (.cells #[.string ⟨#[]⟩, .string ⟨#[]⟩, .int .i8 0, .int .i64 (negN m)] 92)
     have hza : (wm.alloc (.cells #[.string ⟨#[]⟩, .string ⟨#[]⟩, .int .i8 0, .int .i64 (negN m)] 92)).heap.size = wm.heap.size + 1 := by simp
     have HZa := Lib.hid hza
     have hsm := hfm.size
     have hbs : B ≤ (wm.alloc (.cells #[.string ⟨#[]⟩, .string ⟨#[]⟩, .int .i8 0, .int .i64 (negN m)] 92)).heap.size := by omega
     have FA := Lib.hid (hfm.trans (Fut.alloc wm (.cells #[.string ⟨#[]⟩, .string ⟨#[]⟩, .int .i8 0, .int .i64 (negN m)] 92)))
     clear hza
     go_wp2_with (first | (refine wpList_append1 (P := Tryz.prog) (e := 92) (e' := 92) (cs := (#[.string ⟨#[]⟩, .string ⟨#[]⟩, .int .i8 0, .int .i64 (negN m)] : Array Value).toList) (y := markEdgeP m) (wanted_none rfl _) _ _ rfl Tryz.underlying37 infoEd rfl (by omega) REd.one REd.same rfl rfl hOa hba rfl rfl (by rw [List.length_replicate]; unfold maxLen; omega) (by rw [List.length_replicate]; omega) hbs ?_; intro v8 w8 hO8 hG8 hB8))
     have hre : List.replicate (ns k + q) (markEdgeP m) ++ [markEdgeP m] = List.replicate (ns k + (q + 1)) (markEdgeP m) := by rw [show ns k + (q + 1) = (ns k + q) + 1 by omega, List.replicate_succ']
     have hkp := append_keep REd.same (hS2.out.fut REd.stays FA.out) hat0 (by rw [List.take_replicate, Nat.min_eq_left (by omega)]) (by rw [List.length_replicate]; omega) hG8 hO8 hB8
     rw [hre] at hO8
     have hO9 := (hO2.out.trans (Only.fut FA.out)).then (Only.grown (S := fun j => u4.ownBlock = some j) hG8 fun j hj => hj) (fun j hj hlt => (hB2.out j hj).elim id fun h => absurd hlt (by omega))
     go_roundw
     case rel => exact ⟨q + 1, by omega, by go_num, Lib.hid hO8, Lib.hid hkp, Lib.hid (fun x hx => by
      rcases hB8 with h8 | ⟨h8, _⟩
      ·exact hB2.out x (h8 ▸ hx)
      ·rw [h8] at hx
       have := HZa.out
       injection hx with hx
       exact .inr (by omega)), Lib.hid hO9⟩
     case measure => simp [intOf] <;> omega
    ·obtain rfl : q = 70 := by omega
     obtain ⟨A4, c4, hu4, h4c, h4m⟩ := hL2.out.rep.form
     rw [List.length_replicate] at hu4 h4c
     subst hu4
     have hf := (Only.fut F1'.out).trans hO2.out
     have hgvl : gv < w.heap.size ∧ ¬ ownsL hs gv := HV.out gv rfl
     have hngv : ¬ (Value.slice A1 (ns k) c1).ownBlock = some gv := fun h => hgvl.2 ⟨k, _, hkk, h⟩
     have bgv := hf.keeps hgv hngv
     have cwb := hf.cell cw (fun h => hb ⟨k, _, hkk, h⟩)
     have a0 := arr_of_cell hgv d0
     have a2 := arr_of_cell hgv d2
     have x1 : wr.cell? ⟨gv, k * 3 + 1, none⟩ = some (.slice A2 n2 c2) := hf.cell d1 hngv
     have z1 := free_at bgv (k * 3 + 1)
     have hh := (HG.out.held.only (RH.same _ _) hf fun x hx hx2 => (HV.out x hx).2 ⟨k, _, hkk, hx2⟩).write bgv (set_blk bgv (i := k * 3 + 1) (v := .slice A4 (ns k + 70) c4)) (k := k) (by rw [HG.out.len]; exact hlt) (cs := Hd.cells ⟨.slice A1 (ns k) c1, .slice A4 (ns k + 70) c4, m⟩) (y := ⟨.slice A1 (ns k) c1, .slice A4 (ns k + 70) c4, m⟩) (set_held a0 a2) rfl ⟨rfl, ⟨_, _, _, rfl⟩, _, _, _, rfl⟩ (RH.same _ _)
     have OS : Only (fun j => (Value.slice (some ⟨gv, 0, none⟩) hs.length cap).ownBlock = some j) wr (wr.setCell ⟨gv, k * 3 + 1, none⟩ (.slice A4 (ns k + 70) c4)) := Only.set _ _ rfl
     have HST := Lib.hid (HG.out.step REd.same HA.out HLO.out HV.out hkk hf hS2.out hL2.out.rep (fun x hx => (hB2.out x hx).imp id fun h => Nat.le_trans hs1 h) OS hh)
     clear hh hf
     go_wp2
     go_roundw
     case rel => exact ⟨k + 1, by omega, by go_num, Lib.hid ⟨_, HST.out⟩⟩
     case measure => simp [intOf] <;> omega
  ·obtain rfl : k = hs.length := by omega
   have HG := Lib.hid hG
   clear hG
   go_wp2
   go_end0
   exact ⟨⟨_, rfl⟩, _, HG.out⟩
set_option maxHeartbeats 1600000 in
set_option maxRecDepth 100000 in
theorem lookEdge_any {M : Nat} {w : World} {b : Nat} {v : Value} {hs : List Hd} {ns : Nat → Nat} (hc : w.cell? ⟨b, 20, none⟩ = some v) (hH : SlRep 3 maxLen RH w v hs)
  (hl : ∀ (i : Nat) (h : Hd), hs[i]? = some h → SlRep 4 maxLen REd w h.l (List.replicate (ns i) (markEdgeP h.n)) ∧ SlRep 4 maxLen REd w h.long (List.replicate (ns i + 70) (markEdgeP h.n))) (hns : ∀ i, i < hs.length → ns i + 70 ≤ 2932031007402) :
  Calls Tryz.prog 177 #[.pointer (some ⟨b, 0, none⟩)] w fun e w' => e = .returned (.bool true) ∧ Fut w w' := by
 have HH := Lib.hid hH
 have HL := Lib.hid hl
 have HNS := Lib.hid hns
 obtain ⟨A, cap, rfl, hcl, hcm⟩ := hH.form
 have hml : hs.length ≤ 9223372036854775807 := Nat.le_trans hcl hcm
 clear hH hl hns
 go_enter Tryz.func177, Tryz.ntmps177
 go_wp2_with fail
 go_loopw [3] (fun i wr => ∃ k : Nat, k ≤ hs.length ∧ i = .int .i64 k ∧ Hid (Fut w wr)) (fun i _ => hs.length - (intOf i).toNat)
 case atStart => exact ⟨0, Nat.zero_le _, rfl, Lib.hid (Fut.refl _)⟩
 case round =>
  obtain ⟨k, hk, rfl, hG⟩ := hrel
  have cw := hG.out.cell hc
  by_cases hlt : k < hs.length
  ·have hltI : (k : Int) < hs.length := by omega
   have e1 : (0 : Int) ≤ k ∧ (k : Int) < hs.length := by omega
   have e3 : IntKind.i64.wrap ((k : Int) + 1) = ((k + 1 : Nat) : Int) := by rw [IntKind.wrap_i64]; omega
   obtain ⟨gv, ov, l, long, m, rfl, hkk, d0, d1, d2, ⟨A1, n1, c1, rfl⟩, A2, n2, c2, rfl⟩ := held_at (HH.out.fut RH.stays hG.out) hlt
   obtain ⟨hl1, hl2⟩ := HL.out k _ hkk
   have hnk := HNS.out k hlt
   obtain ⟨Aq, cq, hn1, _⟩ := hl1.form
   obtain ⟨Ar, cr, hn2, _⟩ := hl2.form
   rw [List.length_replicate] at hn1 hn2
   obtain rfl : n1 = ns k := by injection hn1
   obtain rfl : n2 = ns k + 70 := by injection hn2
   have e5 : IntKind.i64.wrap ((ns k : Int) + 70) = (ns k : Int) + 70 := by rw [IntKind.wrap_i64]; omega
   have HL1 := Lib.hid (hl1.fut REd.stays hG.out)
   have HL2 := Lib.hid (hl2.fut REd.stays hG.out)
   clear hn1 hn2 hl1 hl2
   go_wp2_with fail
   have h3 := heap_alloc_new wr (.cells #[.slice A1 (ns k) c1, .slice A2 (ns k + 70) c2, .int .i64 m] 157)
   have F1 := Fut.alloc wr (.cells #[.slice A1 (ns k) c1, .slice A2 (ns k + 70) c2, .int .i64 m] 157)
   obtain ⟨w1, hw1⟩ : ∃ W, wr.alloc (.cells #[.slice A1 (ns k) c1, .slice A2 (ns k + 70) c2, .int .i64 m] 157) = W := ⟨_, rfl⟩
   rw [hw1] at h3 F1 ⊢
   clear hw1
   have F1' := Lib.hid F1
   clear F1
   go_loopw [5] (fun i wq => ∃ q : Nat, q ≤ ns k + 70 ∧ i = .int .i64 q ∧ Hid (Fut w1 wq)) (fun i _ => ns k + 70 - (intOf i).toNat)
   case atStart => exact ⟨0, Nat.zero_le _, rfl, Lib.hid (Fut.refl _)⟩
   case round =>
    obtain ⟨q, hq, rfl, hG2⟩ := hrel
    have b3 := hG2.out.block h3
    have t0 := cell_at b3 0 (.slice A1 (ns k) c1) rfl
    have t1 := cell_at b3 1 (.slice A2 (ns k + 70) c2) rfl
    have t2 := cell_at b3 2 (.int .i64 m) rfl
    by_cases hql : q < ns k + 70
    ·have hqI : (q : Int) < (ns k : Int) + 70 := by omega
     have e2 : (0 : Int) ≤ q ∧ (q : Int) < (ns k : Int) + 70 := by omega
     have e4 : IntKind.i64.wrap ((q : Int) + 1) = ((q + 1 : Nat) : Int) := by rw [IntKind.wrap_i64]; omega
     obtain ⟨gl, ol, rfl, rl⟩ := atEdge_mark (HL2.out.fut REd.stays (F1'.out.trans hG2.out)) (k := q) hql
     by_cases hqs : q < ns k
     ·have hqsI : (q : Int) < (ns k : Int) := by omega
      have e6 : (0 : Int) ≤ q ∧ (q : Int) < (ns k : Int) := by omega
      obtain ⟨gs, os, rfl, rs⟩ := atEdge_mark (HL1.out.fut REd.stays (F1'.out.trans hG2.out)) (k := q) hqs
      go_wp2_with fail
      refine wp_graph 27 [.d, .d, .d, .d, .d, .d, .d, .d, .d, .d, .d, .d, .d, .d, .d, .d, .d, .d, .d, .d, .d, .d, .d, .d, .d, .d, .d] (by kernel_rfl) (by kernel_rfl) (by kernel_rfl) ?_
      simp only [takS, Exs]
      iterate 27 apply Exists.intro
      apply Run.valG (wanted_none rfl _)
      ·intro w1 h1 hk
       have q0 := h1.cell t0; have q1 := h1.cell t1; have q2 := h1.cell t2; have hg := (Fut.drew _).trans h1
       have hcw := fun b o => Below.cell (p := ⟨b, o, none⟩) h1
       go_simp; rfl
      simp only [actS]
      apply Run.valG (wanted_none rfl _)
      ·intro w1 h1 hk
       have q0 := h1.cell t0; have q1 := h1.cell t1; have q2 := h1.cell t2; have hg := (Fut.drew _).trans h1
       have hcw := fun b o => Below.cell (p := ⟨b, o, none⟩) h1
       go_simp; rfl
      simp only [actS]
      apply Run.valG (wanted_none rfl _)
      ·intro w1 h1 hk
       have q0 := h1.cell t0; have q1 := h1.cell t1; have q2 := h1.cell t2; have hg := (Fut.drew _).trans h1
       have hcw := fun b o => Below.cell (p := ⟨b, o, none⟩) h1
       go_simp; rfl
      simp only [actS]
      apply Run.valG (wanted_none rfl _)
      ·intro w1 h1 hk
       have q0 := h1.cell t0; have q1 := h1.cell t1; have q2 := h1.cell t2; have hg := (Fut.drew _).trans h1
       have hcw := fun b o => Below.cell (p := ⟨b, o, none⟩) h1
       go_simp; rfl
      simp only [actS]
      apply Run.valG (wanted_none rfl _)
      ·intro w1 h1 hk
       have q0 := h1.cell t0; have q1 := h1.cell t1; have q2 := h1.cell t2; have hg := (Fut.drew _).trans h1
       have hcw := fun b o => Below.cell (p := ⟨b, o, none⟩) h1
       exact exec_load_mid _ _ rfl gl (ol + q * 4) rfl _ _ (rangeAt_fut rl hg) Tryz.underlying92 rfl (sizeEdge m)
      simp only [actS]
      apply Run.valG (wanted_none rfl _)
      ·intro w1 h1 hk
       have q0 := h1.cell t0; have q1 := h1.cell t1; have q2 := h1.cell t2; have hg := (Fut.drew _).trans h1
       have hcw := fun b o => Below.cell (p := ⟨b, o, none⟩) h1
       go_simp; rfl
      simp only [actS]
      apply Run.valG (wanted_none rfl _)
      ·intro w1 h1 hk
       have q0 := h1.cell t0; have q1 := h1.cell t1; have q2 := h1.cell t2; have hg := (Fut.drew _).trans h1
       have hcw := fun b o => Below.cell (p := ⟨b, o, none⟩) h1
       go_simp; rfl
      simp only [actS]
      apply Run.call (wanted_none rfl _) (fun _ _ => by go_simp; exact ⟨rfl, rfl⟩)
      ·intro w1 h1 hk
       have q0 := h1.cell t0; have q1 := h1.cell t1; have q2 := h1.cell t2; have hg := (Fut.drew _).trans h1
       refine (isEdge_any m _).mono ?_; rintro e w' ⟨rfl, hf⟩; exact ⟨rfl, hf⟩
      simp only [actS]
      apply Run.valG (wanted_none rfl _)
      ·intro w1 h1 hk
       have q0 := h1.cell t0; have q1 := h1.cell t1; have q2 := h1.cell t2; have hg := (Fut.drew _).trans h1
       have hcw := fun b o => Below.cell (p := ⟨b, o, none⟩) h1
       go_simp; rfl
      simp only [actS]
      apply Run.valG (wanted_none rfl _)
      ·intro w1 h1 hk
       have q0 := h1.cell t0; have q1 := h1.cell t1; have q2 := h1.cell t2; have hg := (Fut.drew _).trans h1
       have hcw := fun b o => Below.cell (p := ⟨b, o, none⟩) h1
       go_simp; rfl
      simp only [actS]
      apply Run.valG (by go_simp)
      ·intro w1 h1 hk
       have q0 := h1.cell t0; have q1 := h1.cell t1; have q2 := h1.cell t2; have hg := (Fut.drew _).trans h1
       have hcw := fun b o => Below.cell (p := ⟨b, o, none⟩) h1
       go_simp; rfl
      simp only [actS]
      apply Run.valG (by go_simp)
      ·intro w1 h1 hk
       have q0 := h1.cell t0; have q1 := h1.cell t1; have q2 := h1.cell t2; have hg := (Fut.drew _).trans h1
       have hcw := fun b o => Below.cell (p := ⟨b, o, none⟩) h1
       go_simp; rfl
      simp only [actS]
      apply Run.valG (by go_simp)
      ·intro w1 h1 hk
       have q0 := h1.cell t0; have q1 := h1.cell t1; have q2 := h1.cell t2; have hg := (Fut.drew _).trans h1
       have hcw := fun b o => Below.cell (p := ⟨b, o, none⟩) h1
       go_simp; rfl
      simp only [actS]
      apply Run.valG (by go_simp)
      ·intro w1 h1 hk
       have q0 := h1.cell t0; have q1 := h1.cell t1; have q2 := h1.cell t2; have hg := (Fut.drew _).trans h1
       have hcw := fun b o => Below.cell (p := ⟨b, o, none⟩) h1
       go_simp; rfl
      simp only [actS]
      apply Run.valG (by go_simp)
      ·intro w1 h1 hk
       have q0 := h1.cell t0; have q1 := h1.cell t1; have q2 := h1.cell t2; have hg := (Fut.drew _).trans h1
       have hcw := fun b o => Below.cell (p := ⟨b, o, none⟩) h1
       go_simp; rfl
      simp only [actS]
      apply Run.valG (by go_simp)
      ·intro w1 h1 hk
       have q0 := h1.cell t0; have q1 := h1.cell t1; have q2 := h1.cell t2; have hg := (Fut.drew _).trans h1
       have hcw := fun b o => Below.cell (p := ⟨b, o, none⟩) h1
       go_simp; rfl
      simp only [actS]
      apply Run.valG (by go_simp)
      ·intro w1 h1 hk
       have q0 := h1.cell t0; have q1 := h1.cell t1; have q2 := h1.cell t2; have hg := (Fut.drew _).trans h1
       have hcw := fun b o => Below.cell (p := ⟨b, o, none⟩) h1
       go_simp; rfl
      simp only [actS]
      apply Run.valG (by go_simp)
      ·intro w1 h1 hk
       have q0 := h1.cell t0; have q1 := h1.cell t1; have q2 := h1.cell t2; have hg := (Fut.drew _).trans h1
       have hcw := fun b o => Below.cell (p := ⟨b, o, none⟩) h1
       go_simp; rfl
      simp only [actS]
      apply Run.valG (by go_simp)
      ·intro w1 h1 hk
       have q0 := h1.cell t0; have q1 := h1.cell t1; have q2 := h1.cell t2; have hg := (Fut.drew _).trans h1
       have hcw := fun b o => Below.cell (p := ⟨b, o, none⟩) h1
       go_simp; rfl
      simp only [actS]
      apply Run.valG (by go_simp)
      ·intro w1 h1 hk
       have q0 := h1.cell t0; have q1 := h1.cell t1; have q2 := h1.cell t2; have hg := (Fut.drew _).trans h1
       have hcw := fun b o => Below.cell (p := ⟨b, o, none⟩) h1
       go_simp; rfl
      simp only [actS]
      apply Run.valG (by go_simp)
      ·intro w1 h1 hk
       have q0 := h1.cell t0; have q1 := h1.cell t1; have q2 := h1.cell t2; have hg := (Fut.drew _).trans h1
       have hcw := fun b o => Below.cell (p := ⟨b, o, none⟩) h1
       exact exec_load_mid _ _ rfl gs (os + q * 4) rfl _ _ (rangeAt_fut rs hg) Tryz.underlying92 rfl (sizeEdge m)
      simp only [actS]
      apply Run.valG (by go_simp)
      ·intro w1 h1 hk
       have q0 := h1.cell t0; have q1 := h1.cell t1; have q2 := h1.cell t2; have hg := (Fut.drew _).trans h1
       have hcw := fun b o => Below.cell (p := ⟨b, o, none⟩) h1
       go_simp; rfl
      simp only [actS]
      apply Run.valG (by go_simp)
      ·intro w1 h1 hk
       have q0 := h1.cell t0; have q1 := h1.cell t1; have q2 := h1.cell t2; have hg := (Fut.drew _).trans h1
       have hcw := fun b o => Below.cell (p := ⟨b, o, none⟩) h1
       go_simp; rfl
      simp only [actS]
      apply Run.call (by go_simp) (fun _ _ => by go_simp; exact ⟨rfl, rfl⟩)
      ·intro w1 h1 hk
       have q0 := h1.cell t0; have q1 := h1.cell t1; have q2 := h1.cell t2; have hg := (Fut.drew _).trans h1
       refine (isEdge_any m _).mono ?_; rintro e w' ⟨rfl, hf⟩; exact ⟨rfl, hf⟩
      simp only [actS]
      apply Run.valG (by go_simp)
      ·intro w1 h1 hk
       have q0 := h1.cell t0; have q1 := h1.cell t1; have q2 := h1.cell t2; have hg := (Fut.drew _).trans h1
       have hcw := fun b o => Below.cell (p := ⟨b, o, none⟩) h1
       go_simp; rfl
      simp only [actS]
      apply Run.valG (by go_simp)
      ·intro w1 h1 hk
       have q0 := h1.cell t0; have q1 := h1.cell t1; have q2 := h1.cell t2; have hg := (Fut.drew _).trans h1
       have hcw := fun b o => Below.cell (p := ⟨b, o, none⟩) h1
       go_simp; rfl
      simp only [actS]
      apply Run.valG (wanted_none rfl _)
      ·intro w1 h1 hk
       have q0 := h1.cell t0; have q1 := h1.cell t1; have q2 := h1.cell t2; have hg := (Fut.drew _).trans h1
       have hcw := fun b o => Below.cell (p := ⟨b, o, none⟩) h1
       go_simp; rfl
      simp only [actS]
      apply Run.done
      intro w2 h2 hk
      clear hk
      go_wp2
      go_roundw
      case rel => exact ⟨q + 1, by omega, by go_num, Lib.hid (hG2.out.trans ((Fut.drew _).trans h2))⟩
      case measure => simp [intOf] <;> omega
     ·have hqsI : ¬ (q : Int) < (ns k : Int) := by omega
      go_wp2_with fail
      refine wp_graph 27 [.d, .d, .d, .d, .d, .d, .d, .d, .d, .d, .d, .d, .d, .d, .d, .d, .d, .d, .d, .d, .d, .d, .d, .d, .d, .d, .d] (by kernel_rfl) (by kernel_rfl) (by kernel_rfl) ?_
      simp only [takS, Exs]
      iterate 27 apply Exists.intro
      apply Run.valG (wanted_none rfl _)
      ·intro w1 h1 hk
       have q0 := h1.cell t0; have q1 := h1.cell t1; have q2 := h1.cell t2; have hg := (Fut.drew _).trans h1
       have hcw := fun b o => Below.cell (p := ⟨b, o, none⟩) h1
       go_simp; rfl
      simp only [actS]
      apply Run.valG (wanted_none rfl _)
      ·intro w1 h1 hk
       have q0 := h1.cell t0; have q1 := h1.cell t1; have q2 := h1.cell t2; have hg := (Fut.drew _).trans h1
       have hcw := fun b o => Below.cell (p := ⟨b, o, none⟩) h1
       go_simp; rfl
      simp only [actS]
      apply Run.valG (wanted_none rfl _)
      ·intro w1 h1 hk
       have q0 := h1.cell t0; have q1 := h1.cell t1; have q2 := h1.cell t2; have hg := (Fut.drew _).trans h1
       have hcw := fun b o => Below.cell (p := ⟨b, o, none⟩) h1
       go_simp; rfl
      simp only [actS]
      apply Run.valG (wanted_none rfl _)
      ·intro w1 h1 hk
       have q0 := h1.cell t0; have q1 := h1.cell t1; have q2 := h1.cell t2; have hg := (Fut.drew _).trans h1
       have hcw := fun b o => Below.cell (p := ⟨b, o, none⟩) h1
       go_simp; rfl
      simp only [actS]
      apply Run.valG (wanted_none rfl _)
      ·intro w1 h1 hk
       have q0 := h1.cell t0; have q1 := h1.cell t1; have q2 := h1.cell t2; have hg := (Fut.drew _).trans h1
       have hcw := fun b o => Below.cell (p := ⟨b, o, none⟩) h1
       exact exec_load_mid _ _ rfl gl (ol + q * 4) rfl _ _ (rangeAt_fut rl hg) Tryz.underlying92 rfl (sizeEdge m)
      simp only [actS]
      apply Run.valG (wanted_none rfl _)
      ·intro w1 h1 hk
       have q0 := h1.cell t0; have q1 := h1.cell t1; have q2 := h1.cell t2; have hg := (Fut.drew _).trans h1
       have hcw := fun b o => Below.cell (p := ⟨b, o, none⟩) h1
       go_simp; rfl
      simp only [actS]
      apply Run.valG (wanted_none rfl _)
      ·intro w1 h1 hk
       have q0 := h1.cell t0; have q1 := h1.cell t1; have q2 := h1.cell t2; have hg := (Fut.drew _).trans h1
       have hcw := fun b o => Below.cell (p := ⟨b, o, none⟩) h1
       go_simp; rfl
      simp only [actS]
      apply Run.call (wanted_none rfl _) (fun _ _ => by go_simp; exact ⟨rfl, rfl⟩)
      ·intro w1 h1 hk
       have q0 := h1.cell t0; have q1 := h1.cell t1; have q2 := h1.cell t2; have hg := (Fut.drew _).trans h1
       refine (isEdge_any m _).mono ?_; rintro e w' ⟨rfl, hf⟩; exact ⟨rfl, hf⟩
      simp only [actS]
      apply Run.valG (wanted_none rfl _)
      ·intro w1 h1 hk
       have q0 := h1.cell t0; have q1 := h1.cell t1; have q2 := h1.cell t2; have hg := (Fut.drew _).trans h1
       have hcw := fun b o => Below.cell (p := ⟨b, o, none⟩) h1
       go_simp; rfl
      simp only [actS]
      apply Run.valG (wanted_none rfl _)
      ·intro w1 h1 hk
       have q0 := h1.cell t0; have q1 := h1.cell t1; have q2 := h1.cell t2; have hg := (Fut.drew _).trans h1
       have hcw := fun b o => Below.cell (p := ⟨b, o, none⟩) h1
       go_simp; rfl
      simp only [actS]
      apply Run.valG (by go_simp)
      ·intro w1 h1 hk
       have q0 := h1.cell t0; have q1 := h1.cell t1; have q2 := h1.cell t2; have hg := (Fut.drew _).trans h1
       have hcw := fun b o => Below.cell (p := ⟨b, o, none⟩) h1
       go_simp; rfl
      simp only [actS]
      apply Run.valG (by go_simp)
      ·intro w1 h1 hk
       have q0 := h1.cell t0; have q1 := h1.cell t1; have q2 := h1.cell t2; have hg := (Fut.drew _).trans h1
       have hcw := fun b o => Below.cell (p := ⟨b, o, none⟩) h1
       go_simp; rfl
      simp only [actS]
      apply Run.valG (by go_simp)
      ·intro w1 h1 hk
       have q0 := h1.cell t0; have q1 := h1.cell t1; have q2 := h1.cell t2; have hg := (Fut.drew _).trans h1
       have hcw := fun b o => Below.cell (p := ⟨b, o, none⟩) h1
       go_simp; rfl
      simp only [actS]
      apply Run.valG (by go_simp)
      ·intro w1 h1 hk
       have q0 := h1.cell t0; have q1 := h1.cell t1; have q2 := h1.cell t2; have hg := (Fut.drew _).trans h1
       have hcw := fun b o => Below.cell (p := ⟨b, o, none⟩) h1
       go_simp; rfl
      simp only [actS]
      apply Run.valG (by go_simp)
      ·intro w1 h1 hk
       have q0 := h1.cell t0; have q1 := h1.cell t1; have q2 := h1.cell t2; have hg := (Fut.drew _).trans h1
       have hcw := fun b o => Below.cell (p := ⟨b, o, none⟩) h1
       go_simp; rfl
      simp only [actS]
      apply Run.valG (by go_simp)
      ·intro w1 h1 hk
       have q0 := h1.cell t0; have q1 := h1.cell t1; have q2 := h1.cell t2; have hg := (Fut.drew _).trans h1
       have hcw := fun b o => Below.cell (p := ⟨b, o, none⟩) h1
       go_simp; rfl
      simp only [actS]
      apply Run.skip (by first | (go_simp; done) | (go_simp; exact fun h => nomatch h))
      simp only [actS]
      apply Run.skip (by first | (go_simp; done) | (go_simp; exact fun h => nomatch h))
      simp only [actS]
      apply Run.skip (by first | (go_simp; done) | (go_simp; exact fun h => nomatch h))
      simp only [actS]
      apply Run.skip (by first | (go_simp; done) | (go_simp; exact fun h => nomatch h))
      simp only [actS]
      apply Run.skip (by first | (go_simp; done) | (go_simp; exact fun h => nomatch h))
      simp only [actS]
      apply Run.skip (by first | (go_simp; done) | (go_simp; exact fun h => nomatch h))
      simp only [actS]
      apply Run.skip (by first | (go_simp; done) | (go_simp; exact fun h => nomatch h))
      simp only [actS]
      apply Run.skip (by first | (go_simp; done) | (go_simp; exact fun h => nomatch h))
      simp only [actS]
      apply Run.skip (by first | (go_simp; done) | (go_simp; exact fun h => nomatch h))
      simp only [actS]
      apply Run.valG (by go_simp)
      ·intro w1 h1 hk
       have q0 := h1.cell t0; have q1 := h1.cell t1; have q2 := h1.cell t2; have hg := (Fut.drew _).trans h1
       have hcw := fun b o => Below.cell (p := ⟨b, o, none⟩) h1
       go_simp; rfl
      simp only [actS]
      apply Run.valG (wanted_none rfl _)
      ·intro w1 h1 hk
       have q0 := h1.cell t0; have q1 := h1.cell t1; have q2 := h1.cell t2; have hg := (Fut.drew _).trans h1
       have hcw := fun b o => Below.cell (p := ⟨b, o, none⟩) h1
       go_simp; rfl
      simp only [actS]
      apply Run.done
      intro w2 h2 hk
      clear hk
      go_wp2
      go_roundw
      case rel => exact ⟨q + 1, by omega, by go_num, Lib.hid (hG2.out.trans ((Fut.drew _).trans h2))⟩
      case measure => simp [intOf] <;> omega
    ·obtain rfl : q = ns k + 70 := by omega
     go_wp2
     go_roundw
     case rel => exact ⟨k + 1, by omega, by go_num, Lib.hid (hG.out.trans (F1'.out.trans hG2.out))⟩
     case measure => simp [intOf] <;> omega
  ·obtain rfl : k = hs.length := by omega
   go_wp2
   go_ret
   exact ⟨rfl, hG.out⟩
theorem infoHEdge : (Tryz.prog.info? 157).map (fun i => (i.zero, i.size, i.bytes)) = some (some (.agg #[.slice none 0 0, .slice none 0 0, .int .i64 0]), 3, 56) := by kernel_rfl
set_option maxHeartbeats 1600000 in
set_option maxRecDepth 100000 in
theorem keepEdge_any {B : Nat} {w : World} {b : Nat} {n : Int} {vs : Nat → Value} {hs : List Hd} {Al : Option Addr} {nl cl : Nat} (hb : BookAt 74 w b n vs) (hn : 0 ≤ n ∧ n < 1000) (hH : OwnL 3 B 157 RH w (vs 20) hs) (hvb : (vs 20).ownBlock ≠ some b) (hB : B ≤ w.heap.size) (hl : hs.length < 1000) :
  Calls Tryz.prog 39 #[.pointer (some ⟨b, 0, none⟩), .slice Al nl cl] w fun e w' => (∃ u, e = .returned u) ∧ ∃ v', BookAt 74 w' b (n + 1) (updV vs 20 v') ∧ OwnL 3 B 157 RH w' v' (hs ++ [⟨.slice Al nl cl, .slice none 0 0, n + 1⟩]) ∧
   Only (fun k => k = b ∨ (vs 20).ownBlock = some k) w w' ∧ ∀ x, v'.ownBlock = some x → (vs 20).ownBlock = some x ∨ w.heap.size ≤ x := by
 have HB := Lib.hid hb
 have HH := Lib.hid hH
 have cn := hb.num
 have zn := hb.free 0
 have hbl := hb.lt
 obtain ⟨A, cap, hv, hcl, hcm⟩ := hH.rep.form
 have hvb' : ∀ x, (vs 20).ownBlock = some x → x ≠ b ∧ x < w.heap.size := fun x hx => ⟨fun e => hvb (e ▸ hx), (hH.block x hx).2⟩
 have HVB := Lib.hid hvb'
 have e1 : IntKind.i64.wrap (n + 1) = n + 1 := by rw [IntKind.wrap_i64]; omega
 clear hb hH hvb hvb'
 go_enter Tryz.func39, Tryz.ntmps39
 go_wp2_with fail
 have O1 : Only (fun k => k = b) w (w.setCell ⟨b, 0, none⟩ (.int .i64 (n + 1))) := Only.set _ _ rfl
 have hB1 := HB.out.setN (m := n + 1)
 obtain ⟨w1, hw1⟩ : ∃ W, w.setCell ⟨b, 0, none⟩ (.int .i64 (n + 1)) = W := ⟨_, rfl⟩
 rw [hw1] at O1 hB1 ⊢
 clear hw1 cn zn
 have cv : w1.cell? ⟨b, 20, none⟩ = some (.slice A hs.length cap) := by rw [← hv]; exact hB1.cell (by omega) (by omega)
 have cn := hB1.num
 have HB1 := Lib.hid hB1
 have s1 := O1.size
 have HH1 := Lib.hid (HH.out.only (RH.same _ _) O1 fun x hx e => (HVB.out x hx).1 e)
 clear hB1
 refine wp_graph0 12 [.d, .d, .d, .d, .d, .d, .d, .d, .d, .d, .d, .r (fun v w => ∃ g, v = .slice (some ⟨g, 0, none⟩) 1 1 ∧ w.heap[g]? = some (.cells #[.slice Al nl cl, .slice none 0 0, .int .i64 (n + 1)] 157 (0, 0)))] (by kernel_rfl) (by kernel_rfl) (by kernel_rfl) (by decide) (by intro c v w a o ho h; obtain rfl := Option.some.inj ho; exact h) (by kernel_rfl) ?_
 simp only [takS, Exs]
 iterate 11 apply Exists.intro
 apply Run.valG (wanted_none rfl _)
 ·intro w1 h1 hk
  have q0 := h1.cell cv; have q1 := h1.cell cn
  have hcw := fun b o => Below.cell (p := ⟨b, o, none⟩) h1
  go_simp; rfl
 simp only [actS]
 apply Run.valG (wanted_none rfl _)
 ·intro w1 h1 hk
  have q0 := h1.cell cv; have q1 := h1.cell cn
  have hcw := fun b o => Below.cell (p := ⟨b, o, none⟩) h1
  go_simp; rfl
 simp only [actS]
 apply Run.valG (wanted_none rfl _)
 ·intro w1 h1 hk
  have q0 := h1.cell cv; have q1 := h1.cell cn
  have hcw := fun b o => Below.cell (p := ⟨b, o, none⟩) h1
  go_simp; rfl
 simp only [actS]
 apply Run.valG (wanted_none rfl _)
 ·intro w1 h1 hk
  have q0 := h1.cell cv; have q1 := h1.cell cn
  have hcw := fun b o => Below.cell (p := ⟨b, o, none⟩) h1
  go_simp; rfl
 simp only [actS]
 apply Run.valG (wanted_none rfl _)
 ·intro w1 h1 hk
  have q0 := h1.cell cv; have q1 := h1.cell cn
  have hcw := fun b o => Below.cell (p := ⟨b, o, none⟩) h1
  go_simp; rfl
 simp only [actS]
 apply Run.valG (wanted_none rfl _)
 ·intro w1 h1 hk
  have q0 := h1.cell cv; have q1 := h1.cell cn
  have hcw := fun b o => Below.cell (p := ⟨b, o, none⟩) h1
  go_simp; rfl
 simp only [actS]
 apply Run.valG (wanted_none rfl _)
 ·intro w1 h1 hk
  have q0 := h1.cell cv; have q1 := h1.cell cn
  have hcw := fun b o => Below.cell (p := ⟨b, o, none⟩) h1
  go_simp; rfl
 simp only [actS]
 apply Run.valG (wanted_none rfl _)
 ·intro w1 h1 hk
  have q0 := h1.cell cv; have q1 := h1.cell cn
  have hcw := fun b o => Below.cell (p := ⟨b, o, none⟩) h1
  go_simp; rfl
 simp only [actS]
 apply Run.valG (wanted_none rfl _)
 ·intro w1 h1 hk
  have q0 := h1.cell cv; have q1 := h1.cell cn
  have hcw := fun b o => Below.cell (p := ⟨b, o, none⟩) h1
  go_simp; rfl
 simp only [actS]
 apply Run.valG (wanted_none rfl _)
 ·intro w1 h1 hk
  have q0 := h1.cell cv; have q1 := h1.cell cn
  have hcw := fun b o => Below.cell (p := ⟨b, o, none⟩) h1
  go_simp; rfl
 simp only [actS]
 apply Run.valG (wanted_none rfl _)
 ·intro w1 h1 hk
  have q0 := h1.cell cv; have q1 := h1.cell cn
  have hcw := fun b o => Below.cell (p := ⟨b, o, none⟩) h1
  go_simp; rfl
 simp only [actS]
 apply Run.valR (wanted_none rfl _) (by intro v w w' hf hs; exact (by obtain ⟨g, rfl, h⟩ := hs; exact ⟨g, rfl, hf.block h⟩))
 ·intro w1 h1 hk
  have q0 := h1.cell cv; have q1 := h1.cell cn
  exact ⟨.slice (some ⟨w1.heap.size, 0, none⟩) 1 1, _, (by go_simp), Fut.alloc _ _, _, rfl, heap_alloc_new _ _⟩
 intro v11
 simp only [actS]
 apply Run.done
 intro w2 h2 hk
 obtain ⟨f11, _⟩ := hk
 obtain ⟨g, rfl, hg⟩ := f11
 have F2 := (Fut.drew _).trans h2
 have hOa := HH1.out.fut RH.stays F2
 rw [hv] at hOa
 have hB2 := HB1.out.only (S := fun _ => False) (Only.fut F2) (fun h => h)
 have hbs : B ≤ w2.heap.size := Nat.le_trans hB (Nat.le_trans s1 F2.size)
 have hvn : ¬ (Value.slice A hs.length cap).ownBlock = some b := fun h => (HVB.out b (hv ▸ h)).1 rfl
 clear h2 cv cn
 go_wp2_with (first | (refine wpList_append1 (P := Tryz.prog) (e := 157) (e' := 157) (cs := Hd.cells ⟨.slice Al nl cl, .slice none 0 0, n + 1⟩) (y := ⟨.slice Al nl cl, .slice none 0 0, n + 1⟩) (wanted_none rfl _) _ _ rfl Tryz.underlying61 infoHEdge rfl (by omega) RH.one RH.same rfl rfl hOa hg rfl ⟨rfl, ⟨_, _, _, rfl⟩, _, _, _, rfl⟩ (by unfold maxLen; omega) (by omega) hbs ?_; intro v3 w3 hO3 hG3 hB3; obtain ⟨A3, c3, hv3, _⟩ := hO3.rep.form; rw [List.length_append, List.length_singleton] at hv3; have O3 : Only (fun k => (Value.slice A hs.length cap).ownBlock = some k) w2 w3 := Only.grown hG3 (fun k hk => hk); have hB4 := hB2.only O3 hvn; have x4 := hB4.cell (j := 20) (by omega) (by omega); have z4 := hB4.free 20; subst hv3))
 go_end0
 have OS : Only (fun k => k = b) w3 (w3.setCell ⟨b, 20, none⟩ (.slice A3 (hs.length + 1) c3)) := Only.set _ _ rfl
 have s2 := F2.size
 have hfr : ∀ x, (Value.slice A3 (hs.length + 1) c3).ownBlock = some x → (vs 20).ownBlock = some x ∨ w2.heap.size ≤ x := fun x hx => by
  rcases hB3 with h | ⟨h, _⟩
  ·exact .inl (by rw [hv]; exact (show _ = (Value.slice A hs.length cap).ownBlock from h).symm.trans hx)
  ·rw [h] at hx; injection hx with hx; exact .inr (by omega)
 refine ⟨⟨_, rfl⟩, _, hB4.setV (by omega) (by omega), hO3.only (RH.same _ _) OS (fun x hx e => ?_), ?_, fun x hx => (hfr x hx).imp id fun h => by omega⟩
 ·subst e
  rcases hfr _ hx with h | h
  ·exact (HVB.out _ h).1 rfl
  ·omega
 ·rw [hv]
  exact ((O1.mono fun k _ hk => .inl hk).trans (Only.fut F2)).trans ((O3.mono fun k _ hk => .inr hk).trans (OS.mono fun k _ hk => .inl hk))
theorem book_new {w : World} {b : Nat} {arr : Array Value} (h : w.heap[b]? = some (.cells arr 74 (0, 0))) (ha : arr.toList = .int .i64 0 :: List.replicate 31 (.slice none 0 0)) : BookAt 74 w b 0 (fun _ => .slice none 0 0) := by
 refine ⟨arr, h, ?_, ?_, fun j h1 h2 => ?_⟩
 ·have := congrArg List.length ha; simpa using this
 ·rw [← Array.getElem?_toList, ha]; rfl
 ·obtain ⟨i, rfl⟩ : ∃ i, j = i + 1 := ⟨j - 1, by omega⟩
  rw [← Array.getElem?_toList, ha, List.getElem?_cons_succ, List.getElem?_replicate, if_pos (by omega)]
end Go.Proofs.YtdjffkkbjbiihaaGreatDoor
