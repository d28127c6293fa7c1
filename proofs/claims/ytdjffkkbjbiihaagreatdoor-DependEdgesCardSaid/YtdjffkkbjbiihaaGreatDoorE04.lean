/- Parts. -/
import Derived.Test.YtdjffkkbjbiihaaGreatDoorE03
set_option linter.unusedSimpArgs false
set_option linter.unusedVariables false
namespace Go.Proofs.YtdjffkkbjbiihaaGreatDoor
open Go.RowKit
theorem blk_one {w : World} {g sz : Nat} {t : TypeId} {z cs : List Value} (h : BlkF w g t sz (cellsAt [cs] z sz)) (hl : cs.length = sz) : w.heap[g]? = some (.cells cs.toArray t (0, 0)) := by
 obtain ⟨arr, h1, h2, h3⟩ := h
 rw [h1]
 congr 2
 refine Array.ext_getElem? fun j => ?_
 by_cases hj : j < sz
 ·rw [h3 j hj]
  unfold cellsAt
  rw [Nat.div_eq_of_lt hj, Nat.mod_eq_of_lt hj]
  have : j < cs.length := by omega
  simp [List.getD, this]
 ·rw [Array.getElem?_eq_none (by omega), Array.getElem?_eq_none (by simp; omega)]
theorem blk_zero (w : World) (z : List Value) (t : TypeId) (hz : 0 < z.length) : BlkF (w.alloc (.cells z.toArray t)) w.heap.size t z.length (cellsAt [] z z.length) :=
 ⟨z.toArray, heap_alloc_new w _, by simp, fun j hj => by
  rw [cellsAt_nil, Nat.mod_eq_of_lt hj]
  simp [List.getD, hj]⟩
def Ar.cells (a : Ar) : List Value := .int .i8 a.g :: a.t.cells
theorem sl_row {α : Type} {sz M : Nat} {R : World → List Value → α → Prop} {w : World} {A : Option Addr} {n cap : Nat} {xs : List α} (h : SlRep sz M R w (.slice A n cap) xs) {k : Nat} (hk : k < xs.length) :
  ∃ b off cs, A = some ⟨b, off, none⟩ ∧ R w cs xs[k] ∧ cs.length = sz ∧ ∀ j v, cs[j]? = some v → w.cell? ⟨b, off + k * sz + j, none⟩ = some v := by
 obtain ⟨A1, cap1, hv, _, _, h3⟩ := h
 obtain ⟨b, off, cs, hA, hl, hc, hr⟩ := h3 k _ (List.getElem?_eq_getElem hk)
 injection hv with hv _ _
 exact ⟨b, off, cs, hv.trans hA, hr, hl, fun j v hj => by rw [Nat.add_assoc]; exact hc j v hj⟩
theorem take_map {α β : Type} {l : List α} {k : Nat} (hk : k < l.length) (f : α → β) : (l.take (k + 1)).map f = (l.take k).map f ++ [f l[k]] := by
 rw [List.take_succ_eq_append_getElem hk, List.map_append]; rfl
theorem Tm.one (t : Tm) : ∀ v ∈ t.cells, v.oneCell' = true := fun v hv => by
 unfold Tm.cells at hv
 simp only [List.mem_cons, List.not_mem_nil, or_false] at hv
 rcases hv with rfl | rfl | rfl | rfl <;> rfl
theorem Ar.one (t : Ar) : ∀ v ∈ t.cells, v.oneCell' = true := fun v hv => by
 unfold Ar.cells Tm.cells at hv
 simp only [List.mem_cons, List.not_mem_nil, or_false] at hv
 rcases hv with rfl | rfl | rfl | rfl | rfl <;> rfl
theorem RTm.cs {w : World} {cs : List Value} {t : Tm} (h : RTm w cs t) : cs = t.cells := h.1
theorem RAr.cs {w : World} {cs : List Value} {t : Ar} (h : RAr w cs t) : cs = t.cells := h.1
def zTm : List Value := [.string ⟨#[]⟩, .int .i8 0, .int .i64 0, .string ⟨#[]⟩]
def mkTm : List Value := [.string wordS, .int .i8 0, .int .i64 0, .string ⟨#[]⟩]
def zAr : List Value := [.int .i8 0, .string ⟨#[]⟩, .int .i8 0, .int .i64 0, .string ⟨#[]⟩]
def mkAr : List Value := [.int .i8 0, .string wordS, .int .i8 0, .int .i64 0, .string ⟨#[]⟩]
theorem infoTm4 : (Tryz.prog.info? 114).map (fun i => (i.zero, i.size, i.bytes)) = some (some (.agg zTm.toArray), 4, 48) := by kernel_rfl
theorem infoAr5 : (Tryz.prog.info? 148).map (fun i => (i.zero, i.size, i.bytes)) = some (some (.agg zAr.toArray), 5, 56) := by kernel_rfl
theorem infoTmN : (Tryz.prog.info? 114).map (·.size) = some 4 := by kernel_rfl
theorem infoArN : (Tryz.prog.info? 148).map (·.size) = some 5 := by kernel_rfl
set_option maxHeartbeats 1000000 in
theorem markTm_any (w : World) (hP : Pows w) : Calls Tryz.prog 100 #[.int .i64 777777] w fun e w' => e = .returned (.agg mkTm.toArray) ∧ Fut w w' := by
 have HW := Lib.hid (fun w hP => word_any' w hP)
 have hb0 := Lib.hid (blk_zero w zTm 114 (by decide))
 have f0 := Fut.alloc w (.cells zTm.toArray 114)
 unfold mkTm
 generalize wordS = t at HW ⊢
 go_enter Tryz.func100, Tryz.ntmps100
 go_wp2_with fail
 refine (HW.out _ (hP.fut f0)).mono ?_
 rintro e w1 ⟨rfl, h1⟩
 have hb1 := Lib.hid (hb0.out.fut h1)
 have F1 := Lib.hid (f0.trans h1)
 clear h1 f0
 have hi3 := infoTmN
 go_wp2_with (first | (show wpList _ _ _ (Oper.mk _ (Op.store _ _ _) _ _ _ _ :: _) _ _; refine wpList_storeK ([.string t, .int .i8 0, .int .i64 0, .string ⟨#[]⟩] : List Value) rfl _ _ _ rfl rfl rfl hb1.out (fun c hc => (by cases hc)) rfl (by decide) rfl (by decide) hi3 (by intro v hv; simp only [List.mem_cons, List.not_mem_nil, or_false] at hv; rcases hv with (rfl|rfl|rfl|rfl) <;> rfl) ?_; intro w2 hB2 hO2))
 have hb2 := blk_one hB2 rfl
 have OW : Fut w w2 := ((Only.fut (S := fun k => k = w.heap.size) F1.out).trans hO2).toFut fun k hk => by omega
 refine bodyPost_ret (v := .agg ([.string t, .int .i8 0, .int .i64 0, .string ⟨#[]⟩] : List Value).toArray) (results_cell_row rfl _ _ w.heap.size _ ([.string t, .int .i8 0, .int .i64 0, .string ⟨#[]⟩] : List Value).toArray _ _ rfl hb2 Tryz.underlying114 rfl hi3) rfl ?_
 exact ⟨rfl, OW⟩
set_option maxHeartbeats 1000000 in
theorem isTm_any (w : World) (hP : Pows w) : Calls Tryz.prog 220 #[.agg mkTm.toArray, .int .i64 777777] w fun e w' => e = .returned (.bool true) ∧ Fut w w' := by
 have HP := Lib.hid hP
 have HW := Lib.hid (fun w hP => word_any' w hP)
 unfold mkTm
 generalize wordS = t at HW ⊢
 have hbx := heap_alloc_new w (.cells ([.string t, .int .i8 0, .int .i64 0, .string ⟨#[]⟩] : List Value).toArray 114)
 have c0 := cell_at hbx 0 _ rfl
 have c1 := cell_at hbx 1 _ rfl
 have c2 := cell_at hbx 2 _ rfl
 have c3 := cell_at hbx 3 _ rfl
 skip
 clear hbx
 go_enter Tryz.func220, Tryz.ntmps220
 go_wp2
 refine wp_graph 6 [.d, .d, .d, .d, .d, .d] (by kernel_rfl) (by kernel_rfl) (by kernel_rfl) ?_
 simp only [takS, Exs]
 iterate 6 apply Exists.intro
 apply Run.valG (wanted_none rfl _)
 ·intro w1 h1 hk
  have q0 := h1.cell c0; have q1 := h1.cell c1; have q2 := h1.cell c2; have q3 := h1.cell c3
  have hcw := fun b o => Below.cell (p := ⟨b, o, none⟩) h1
  go_simp; rfl
 simp only [actS]
 apply Run.valG (wanted_none rfl _)
 ·intro w1 h1 hk
  have q0 := h1.cell c0; have q1 := h1.cell c1; have q2 := h1.cell c2; have q3 := h1.cell c3
  have hcw := fun b o => Below.cell (p := ⟨b, o, none⟩) h1
  go_simp; rfl
 simp only [actS]
 apply Run.call (wanted_none rfl _) (fun _ _ => by go_simp; exact ⟨rfl, rfl⟩)
 ·intro w1 h1 hk
  have q0 := h1.cell c0; have q1 := h1.cell c1; have q2 := h1.cell c2; have q3 := h1.cell c3
  exact HW.out _ (HP.out.fut (((Fut.alloc _ _).trans (Fut.drew _)).trans h1))
 simp only [actS]
 apply Run.valG (wanted_none rfl _)
 ·intro w1 h1 hk
  have q0 := h1.cell c0; have q1 := h1.cell c1; have q2 := h1.cell c2; have q3 := h1.cell c3
  have hcw := fun b o => Below.cell (p := ⟨b, o, none⟩) h1
  go_simp; rfl
 simp only [actS]
 apply Run.valG (wanted_none rfl _)
 ·intro w1 h1 hk
  have q0 := h1.cell c0; have q1 := h1.cell c1; have q2 := h1.cell c2; have q3 := h1.cell c3
  have hcw := fun b o => Below.cell (p := ⟨b, o, none⟩) h1
  go_simp; rfl
 simp only [actS]
 apply Run.valG (wanted_none rfl _)
 ·intro w1 h1 hk
  have q0 := h1.cell c0; have q1 := h1.cell c1; have q2 := h1.cell c2; have q3 := h1.cell c3
  have hcw := fun b o => Below.cell (p := ⟨b, o, none⟩) h1
  go_simp; rfl
 simp only [actS]
 apply Run.done
 intro w2 h2 hk
 clear hk
 go_wp2
 go_ret
 exact ⟨by first | rfl | simp, (Fut.alloc _ _).trans ((Fut.drew _).trans h2)⟩
abbrev TwTm : Nat → World → Value → List Tm → Prop := TwinE 4 114 zTm (fun _ _ cs x => cs = Tm.cells x) (fun _ cs => cs = mkTm)
theorem TwTm.keep {B : Nat} {w w' : World} {v : Value} {xs : List Tm} (h : TwTm B w v xs) (hf : Fut w w') : TwTm B w' v xs := TwinE.fut (fun _ _ _ _ _ _ h => h) (fun _ _ _ _ h => h) h hf
set_option maxHeartbeats 2000000 in
theorem twinTm_any {M : Nat} (A : Option Addr) (c : Nat) (xs : List Tm) (w : World) (hP : Pows w) (h : SlRep 4 M RTm w (.slice A xs.length c) xs) (hn : xs.length ≤ 100000000) :
  Calls Tryz.prog 263 #[.slice A xs.length c] w fun e w' => ∃ v, e = .returned v ∧ TwTm w.heap.size w' v xs ∧ Fut w w' := by
 obtain ⟨i0, hi0, hz0, hz1, hz2⟩ := info_parts infoTm4
 have hmk : ∀ W : World, (Instr.makeSlice 105 (.int .i64 ((xs.length : Int) + 1)) (.int .i64 ((xs.length : Int) + 1))).run Tryz.prog W =
   .ok (.slice (some ⟨W.heap.size, 0, none⟩) (xs.length + 1) (xs.length + 1)) (W.alloc (.cells (madeCells zTm.toArray ((xs.length + 1) * 4)) 114)) := fun W => by
  have := run_make_rowN (P := Tryz.prog) 105 114 i0 _ Tryz.underlying105 hi0 hz0 .i64 .i64 (xs.length + 1) (xs.length + 1) (Nat.le_refl _) (by rw [hz2]; omega) (by omega) W
  rw [hz1] at this
  exact this
 have HB0 := Lib.hid (blk_madeK w zTm (xs.length + 1) 114 (by decide))
 have F0 := Lib.hid (Fut.alloc w (.cells (madeCells zTm.toArray ((xs.length + 1) * 4)) 114))
 have H := Lib.hid h
 have HP := Lib.hid hP
 have hxl : xs.length ≤ 9223372036854775807 := by omega
 have hiN := infoTmN
 clear h hP hi0 hz0 hz1 hz2
 go_enter Tryz.func263, Tryz.ntmps263
 go_wp2
 go_loopw [4] (fun i wr => ∃ k : Nat, k ≤ xs.length ∧ i = .int .i64 k ∧ Hid (BlkF wr w.heap.size 114 ((xs.length + 1) * 4) (cellsAt ((xs.take k).map Tm.cells) zTm 4)) ∧ Hid (Fut w wr)) (fun i _ => xs.length - (intOf i).toNat)
 case atStart => exact ⟨0, Nat.zero_le _, rfl, HB0, F0⟩
 case round =>
  obtain ⟨k, hk, rfl, hB, hF⟩ := hrel
  have hlen : ((xs.take k).map Tm.cells).length = k := by rw [List.length_map, List.length_take, Nat.min_eq_left hk]
  have hall : ∀ c ∈ (xs.take k).map Tm.cells, c.length = 4 := fun c hc => by
   obtain ⟨x, _, rfl⟩ := List.mem_map.1 hc
   rfl
  by_cases hlt : k < xs.length
  ·have hltI : (k : Int) < xs.length := by omega
   have e0 : (0 : Int) ≤ k ∧ (k : Int) < xs.length := by omega
   have e1 : (0 : Int) ≤ k ∧ (k : Int) < xs.length + 1 := by omega
   obtain ⟨b', off, cs, rfl, hr, _, hcs⟩ := sl_row (H.out.fut RTm.stays hF.out) hlt
   obtain rfl := hr.cs
   have hnx := Lib.hid (take_map hlt Tm.cells)
   have hone := (xs[k]).one
   generalize xs[k] = z at *
   have hcs9 := Lib.hid hcs
   have hall9 := Lib.hid hall
   have hlen9 := Lib.hid hlen
   clear hcs hr hall hlen
   go_wp2_with (first | (show wpList _ _ _ (Oper.mk _ (Op.load _ _) _ _ _ _ :: _) _ _; refine wpList_load_mid rfl _ _ rfl b' (off + k * 4) rfl (Tm.cells z) _ hcs9.out Tryz.underlying114 rfl hiN ?_) | (show wpList _ _ _ (Oper.mk _ (Op.store _ _ _) _ _ _ _ :: _) _ _; refine wpList_storeK (Tm.cells z) rfl _ _ _ rfl rfl rfl hB.out hall9.out (by rw [hlen9.out]) (by rw [hlen9.out]; omega) rfl (by decide) hiN hone ?_; intro w2 hB2 hO2))
   have HB2 := Lib.hid (by rw [← hnx.out] at hB2; exact hB2)
   have HF2 := Lib.hid (((Only.fut (S := fun k => k = w.heap.size) hF.out).trans hO2).toFut fun k hk => by omega)
   clear hB2 hO2 hB hF
   go_wp2
   go_roundw
   case rel => exact ⟨k + 1, by omega, by go_num, HB2, HF2⟩
   case measure => simp [intOf] <;> omega
  ·obtain rfl : k = xs.length := by omega
   have hMk := Lib.hid (markTm_any wr (HP.out.fut hF.out))
   have e1 : (0 : Int) ≤ xs.length ∧ (xs.length : Int) < xs.length + 1 := by omega
   have hall9 := Lib.hid hall
   have hlen9 := Lib.hid hlen
   have hone : ∀ v ∈ mkTm, v.oneCell' = true := fun v hv => by
    unfold mkTm at hv
    simp only [List.mem_cons, List.not_mem_nil, or_false] at hv
    rcases hv with (rfl|rfl|rfl|rfl) <;> rfl
   clear hall hlen
   go_wp2_with fail
   refine hMk.out.mono ?_
   rintro e w1 ⟨rfl, f1⟩
   have hB1 := Lib.hid (hB.out.fut f1)
   have hF1 := Lib.hid (hF.out.trans f1)
   clear f1 hB hF hMk
   go_wp2_with (first | (show wpList _ _ _ (Oper.mk _ (Op.store _ _ _) _ _ _ _ :: _) _ _; refine wpList_storeK mkTm rfl _ _ _ rfl rfl rfl hB1.out hall9.out (by rw [hlen9.out]) (by rw [hlen9.out]; omega) rfl (by decide) hiN hone ?_; intro w2 hB2 hO2))
   have HF2 := Lib.hid (((Only.fut (S := fun k => k = w.heap.size) hF1.out).trans hO2).toFut fun k hk => by omega)
   have HB2 := Lib.hid hB2
   clear hB2 hO2
   go_wp2
   go_ret
   refine ⟨_, rfl, ⟨w.heap.size, _, Nat.le_refl _, rfl, ?_, HB2.out, fun i x cs hx hc => ?_, fun cs hc => ?_⟩, HF2.out⟩
   ·rw [List.length_append, hlen9.out]; rfl
   ·have hi : i < xs.length := (List.getElem?_eq_some_iff.1 hx).1
    rw [List.getElem?_append_left (by rw [hlen9.out]; exact hi), List.take_length, List.getElem?_map, hx] at hc
    obtain rfl := Option.some.inj hc
    exact ⟨rfl, rfl⟩
   ·rw [List.getElem?_append_right (by rw [hlen9.out]; exact Nat.le_refl _), hlen9.out, Nat.sub_self] at hc
    obtain rfl := Option.some.inj hc
    exact ⟨rfl, rfl⟩
set_option maxHeartbeats 1000000 in
theorem markAr_any (w : World) (hP : Pows w) : Calls Tryz.prog 103 #[.int .i64 777777] w fun e w' => e = .returned (.agg mkAr.toArray) ∧ Fut w w' := by
 have HW := Lib.hid (fun w hP => word_any' w hP)
 have hb0 := Lib.hid (blk_zero w zAr 148 (by decide))
 have f0 := Fut.alloc w (.cells zAr.toArray 148)
 unfold mkAr
 generalize wordS = t at HW ⊢
 go_enter Tryz.func103, Tryz.ntmps103
 go_wp2_with fail
 refine (HW.out _ (hP.fut f0)).mono ?_
 rintro e w1 ⟨rfl, h1⟩
 have hb1 := Lib.hid (hb0.out.fut h1)
 have F1 := Lib.hid (f0.trans h1)
 clear h1 f0
 have hi3 := infoArN
 go_wp2_with (first | (show wpList _ _ _ (Oper.mk _ (Op.store _ _ _) _ _ _ _ :: _) _ _; refine wpList_storeK ([.int .i8 0, .string t, .int .i8 0, .int .i64 0, .string ⟨#[]⟩] : List Value) rfl _ _ _ rfl rfl rfl hb1.out (fun c hc => (by cases hc)) rfl (by decide) rfl (by decide) hi3 (by intro v hv; simp only [List.mem_cons, List.not_mem_nil, or_false] at hv; rcases hv with (rfl|rfl|rfl|rfl|rfl) <;> rfl) ?_; intro w2 hB2 hO2))
 have hb2 := blk_one hB2 rfl
 have OW : Fut w w2 := ((Only.fut (S := fun k => k = w.heap.size) F1.out).trans hO2).toFut fun k hk => by omega
 refine bodyPost_ret (v := .agg ([.int .i8 0, .string t, .int .i8 0, .int .i64 0, .string ⟨#[]⟩] : List Value).toArray) (results_cell_row rfl _ _ w.heap.size _ ([.int .i8 0, .string t, .int .i8 0, .int .i64 0, .string ⟨#[]⟩] : List Value).toArray _ _ rfl hb2 Tryz.underlying148 rfl hi3) rfl ?_
 exact ⟨rfl, OW⟩
set_option maxHeartbeats 1000000 in
theorem isAr_any (w : World) (hP : Pows w) : Calls Tryz.prog 214 #[.agg mkAr.toArray, .int .i64 777777] w fun e w' => e = .returned (.bool true) ∧ Fut w w' := by
 have HP := Lib.hid hP
 have HW := Lib.hid (fun w hP => word_any' w hP)
 unfold mkAr
 generalize wordS = t at HW ⊢
 have hbx := heap_alloc_new w (.cells ([.int .i8 0, .string t, .int .i8 0, .int .i64 0, .string ⟨#[]⟩] : List Value).toArray 148)
 have c0 := cell_at hbx 0 _ rfl
 have c1 := cell_at hbx 1 _ rfl
 have c2 := cell_at hbx 2 _ rfl
 have c3 := cell_at hbx 3 _ rfl
 have c4 := cell_at hbx 4 _ rfl
 clear hbx
 go_enter Tryz.func214, Tryz.ntmps214
 go_wp2
 refine wp_graph 7 [.d, .d, .d, .d, .d, .d, .d] (by kernel_rfl) (by kernel_rfl) (by kernel_rfl) ?_
 simp only [takS, Exs]
 iterate 7 apply Exists.intro
 apply Run.valG (wanted_none rfl _)
 ·intro w1 h1 hk
  have q0 := h1.cell c0; have q1 := h1.cell c1; have q2 := h1.cell c2; have q3 := h1.cell c3; have q4 := h1.cell c4
  have hcw := fun b o => Below.cell (p := ⟨b, o, none⟩) h1
  go_simp; rfl
 simp only [actS]
 apply Run.valG (wanted_none rfl _)
 ·intro w1 h1 hk
  have q0 := h1.cell c0; have q1 := h1.cell c1; have q2 := h1.cell c2; have q3 := h1.cell c3; have q4 := h1.cell c4
  have hcw := fun b o => Below.cell (p := ⟨b, o, none⟩) h1
  go_simp; rfl
 simp only [actS]
 apply Run.call (wanted_none rfl _) (fun _ _ => by go_simp; exact ⟨rfl, rfl⟩)
 ·intro w1 h1 hk
  have q0 := h1.cell c0; have q1 := h1.cell c1; have q2 := h1.cell c2; have q3 := h1.cell c3; have q4 := h1.cell c4
  exact HW.out _ (HP.out.fut (((Fut.alloc _ _).trans (Fut.drew _)).trans h1))
 simp only [actS]
 apply Run.valG (wanted_none rfl _)
 ·intro w1 h1 hk
  have q0 := h1.cell c0; have q1 := h1.cell c1; have q2 := h1.cell c2; have q3 := h1.cell c3; have q4 := h1.cell c4
  have hcw := fun b o => Below.cell (p := ⟨b, o, none⟩) h1
  go_simp; rfl
 simp only [actS]
 apply Run.valG (wanted_none rfl _)
 ·intro w1 h1 hk
  have q0 := h1.cell c0; have q1 := h1.cell c1; have q2 := h1.cell c2; have q3 := h1.cell c3; have q4 := h1.cell c4
  have hcw := fun b o => Below.cell (p := ⟨b, o, none⟩) h1
  go_simp; rfl
 simp only [actS]
 apply Run.valG (wanted_none rfl _)
 ·intro w1 h1 hk
  have q0 := h1.cell c0; have q1 := h1.cell c1; have q2 := h1.cell c2; have q3 := h1.cell c3; have q4 := h1.cell c4
  have hcw := fun b o => Below.cell (p := ⟨b, o, none⟩) h1
  go_simp; rfl
 simp only [actS]
 apply Run.valG (wanted_none rfl _)
 ·intro w1 h1 hk
  have q0 := h1.cell c0; have q1 := h1.cell c1; have q2 := h1.cell c2; have q3 := h1.cell c3; have q4 := h1.cell c4
  have hcw := fun b o => Below.cell (p := ⟨b, o, none⟩) h1
  go_simp; rfl
 simp only [actS]
 apply Run.done
 intro w2 h2 hk
 clear hk
 go_wp2
 go_ret
 exact ⟨by first | rfl | simp, (Fut.alloc _ _).trans ((Fut.drew _).trans h2)⟩
abbrev TwAr : Nat → World → Value → List Ar → Prop := TwinE 5 148 zAr (fun _ _ cs x => cs = Ar.cells x) (fun _ cs => cs = mkAr)
theorem TwAr.keep {B : Nat} {w w' : World} {v : Value} {xs : List Ar} (h : TwAr B w v xs) (hf : Fut w w') : TwAr B w' v xs := TwinE.fut (fun _ _ _ _ _ _ h => h) (fun _ _ _ _ h => h) h hf
set_option maxHeartbeats 2000000 in
theorem twinAr_any {M : Nat} (A : Option Addr) (c : Nat) (xs : List Ar) (w : World) (hP : Pows w) (h : SlRep 5 M RAr w (.slice A xs.length c) xs) (hn : xs.length ≤ 100000000) :
  Calls Tryz.prog 75 #[.slice A xs.length c] w fun e w' => ∃ v, e = .returned v ∧ TwAr w.heap.size w' v xs ∧ Fut w w' := by
 obtain ⟨i0, hi0, hz0, hz1, hz2⟩ := info_parts infoAr5
 have hmk : ∀ W : World, (Instr.makeSlice 77 (.int .i64 ((xs.length : Int) + 1)) (.int .i64 ((xs.length : Int) + 1))).run Tryz.prog W =
   .ok (.slice (some ⟨W.heap.size, 0, none⟩) (xs.length + 1) (xs.length + 1)) (W.alloc (.cells (madeCells zAr.toArray ((xs.length + 1) * 5)) 148)) := fun W => by
  have := run_make_rowN (P := Tryz.prog) 77 148 i0 _ Tryz.underlying77 hi0 hz0 .i64 .i64 (xs.length + 1) (xs.length + 1) (Nat.le_refl _) (by rw [hz2]; omega) (by omega) W
  rw [hz1] at this
  exact this
 have HB0 := Lib.hid (blk_madeK w zAr (xs.length + 1) 148 (by decide))
 have F0 := Lib.hid (Fut.alloc w (.cells (madeCells zAr.toArray ((xs.length + 1) * 5)) 148))
 have H := Lib.hid h
 have HP := Lib.hid hP
 have hxl : xs.length ≤ 9223372036854775807 := by omega
 have hiN := infoArN
 clear h hP hi0 hz0 hz1 hz2
 go_enter Tryz.func75, Tryz.ntmps75
 go_wp2
 go_loopw [4] (fun i wr => ∃ k : Nat, k ≤ xs.length ∧ i = .int .i64 k ∧ Hid (BlkF wr w.heap.size 148 ((xs.length + 1) * 5) (cellsAt ((xs.take k).map Ar.cells) zAr 5)) ∧ Hid (Fut w wr)) (fun i _ => xs.length - (intOf i).toNat)
 case atStart => exact ⟨0, Nat.zero_le _, rfl, HB0, F0⟩
 case round =>
  obtain ⟨k, hk, rfl, hB, hF⟩ := hrel
  have hlen : ((xs.take k).map Ar.cells).length = k := by rw [List.length_map, List.length_take, Nat.min_eq_left hk]
  have hall : ∀ c ∈ (xs.take k).map Ar.cells, c.length = 5 := fun c hc => by
   obtain ⟨x, _, rfl⟩ := List.mem_map.1 hc
   rfl
  by_cases hlt : k < xs.length
  ·have hltI : (k : Int) < xs.length := by omega
   have e0 : (0 : Int) ≤ k ∧ (k : Int) < xs.length := by omega
   have e1 : (0 : Int) ≤ k ∧ (k : Int) < xs.length + 1 := by omega
   obtain ⟨b', off, cs, rfl, hr, _, hcs⟩ := sl_row (H.out.fut RAr.stays hF.out) hlt
   obtain rfl := hr.cs
   have hnx := Lib.hid (take_map hlt Ar.cells)
   have hone := (xs[k]).one
   generalize xs[k] = z at *
   have hcs9 := Lib.hid hcs
   have hall9 := Lib.hid hall
   have hlen9 := Lib.hid hlen
   clear hcs hr hall hlen
   go_wp2_with (first | (show wpList _ _ _ (Oper.mk _ (Op.load _ _) _ _ _ _ :: _) _ _; refine wpList_load_mid rfl _ _ rfl b' (off + k * 5) rfl (Ar.cells z) _ hcs9.out Tryz.underlying148 rfl hiN ?_) | (show wpList _ _ _ (Oper.mk _ (Op.store _ _ _) _ _ _ _ :: _) _ _; refine wpList_storeK (Ar.cells z) rfl _ _ _ rfl rfl rfl hB.out hall9.out (by rw [hlen9.out]) (by rw [hlen9.out]; omega) rfl (by decide) hiN hone ?_; intro w2 hB2 hO2))
   have HB2 := Lib.hid (by rw [← hnx.out] at hB2; exact hB2)
   have HF2 := Lib.hid (((Only.fut (S := fun k => k = w.heap.size) hF.out).trans hO2).toFut fun k hk => by omega)
   clear hB2 hO2 hB hF
   go_wp2
   go_roundw
   case rel => exact ⟨k + 1, by omega, by go_num, HB2, HF2⟩
   case measure => simp [intOf] <;> omega
  ·obtain rfl : k = xs.length := by omega
   have hMk := Lib.hid (markAr_any wr (HP.out.fut hF.out))
   have e1 : (0 : Int) ≤ xs.length ∧ (xs.length : Int) < xs.length + 1 := by omega
   have hall9 := Lib.hid hall
   have hlen9 := Lib.hid hlen
   have hone : ∀ v ∈ mkAr, v.oneCell' = true := fun v hv => by
    unfold mkAr at hv
    simp only [List.mem_cons, List.not_mem_nil, or_false] at hv
    rcases hv with (rfl|rfl|rfl|rfl|rfl) <;> rfl
   clear hall hlen
   go_wp2_with fail
   refine hMk.out.mono ?_
   rintro e w1 ⟨rfl, f1⟩
   have hB1 := Lib.hid (hB.out.fut f1)
   have hF1 := Lib.hid (hF.out.trans f1)
   clear f1 hB hF hMk
   go_wp2_with (first | (show wpList _ _ _ (Oper.mk _ (Op.store _ _ _) _ _ _ _ :: _) _ _; refine wpList_storeK mkAr rfl _ _ _ rfl rfl rfl hB1.out hall9.out (by rw [hlen9.out]) (by rw [hlen9.out]; omega) rfl (by decide) hiN hone ?_; intro w2 hB2 hO2))
   have HF2 := Lib.hid (((Only.fut (S := fun k => k = w.heap.size) hF1.out).trans hO2).toFut fun k hk => by omega)
   have HB2 := Lib.hid hB2
   clear hB2 hO2
   go_wp2
   go_ret
   refine ⟨_, rfl, ⟨w.heap.size, _, Nat.le_refl _, rfl, ?_, HB2.out, fun i x cs hx hc => ?_, fun cs hc => ?_⟩, HF2.out⟩
   ·rw [List.length_append, hlen9.out]; rfl
   ·have hi : i < xs.length := (List.getElem?_eq_some_iff.1 hx).1
    rw [List.getElem?_append_left (by rw [hlen9.out]; exact hi), List.take_length, List.getElem?_map, hx] at hc
    obtain rfl := Option.some.inj hc
    exact ⟨rfl, rfl⟩
   ·rw [List.getElem?_append_right (by rw [hlen9.out]; exact Nat.le_refl _), hlen9.out, Nat.sub_self] at hc
    obtain rfl := Option.some.inj hc
    exact ⟨rfl, rfl⟩
theorem sl_each {α : Type} {sz M : Nat} {R : World → List Value → α → Prop} {w : World} {v : Value} {xs : List α} (h : SlRep sz M R w v xs) : ∀ x ∈ xs, ∃ cs, R w cs x := fun x hx => by
 obtain ⟨A, cap, _, _, _, h3⟩ := h
 obtain ⟨i, hi⟩ := List.getElem?_of_mem hx
 obtain ⟨_, _, cs, _, _, _, hr⟩ := h3 i x hi
 exact ⟨cs, hr⟩
theorem TwinE.mark {α : Type} {sz : Nat} {e : TypeId} {z mk : List Value} {RE : Nat → World → List Value → α → Prop} {B : Nat} {w : World} {v : Value} {xs : List α} (h : TwinE sz e z RE (fun _ cs => cs = mk) B w v xs) (hm : mk.length = sz) (hsz : 0 < sz) :
  ∃ g, B ≤ g ∧ v = .slice (some ⟨g, 0, none⟩) xs.length (xs.length + 1) ∧ ∀ j u, mk[j]? = some u → w.cell? ⟨g, xs.length * sz + j, none⟩ = some u := by
 obtain ⟨g, css, h1, h2, h3, h4, h5, h6⟩ := h
 refine ⟨g, h1, h2, fun j u hj => ?_⟩
 have hc : css[xs.length]? = some (css[xs.length]'(by omega)) := List.getElem?_eq_getElem (by omega)
 have hjl : j < sz := by rw [← hm]; exact (List.getElem?_eq_some_iff.1 hj).1
 have he := (h6 _ hc).2
 rw [h4.cell (by rw [Nat.add_mul]; omega), cellsAt_get (cs := mk) (by rw [hc, he]) hj hjl]
theorem TwTm.rep {M B : Nat} {w w0 : World} {v a : Value} {xs : List Tm} (h : TwTm B w v xs) (hr : SlRep 4 M RTm w0 a xs) : SlRep 4 (xs.length + 1) RTm w v xs :=
 TwinE.rep h (fun g cs x hx he => by
  obtain ⟨cs', h9⟩ := sl_each hr x hx
  exact ⟨he, h9.2⟩) (Nat.le_refl _)
set_option maxHeartbeats 2000000 in
theorem sameTm_any {M M' : Nat} (A B : Option Addr) (c d : Nat) (xs : List Tm) (w : World) (ha : SlRep 4 M RTm w (.slice A xs.length c) xs) (hb : SlRep 4 M' RTm w (.slice B xs.length d) xs) (hn : xs.length ≤ 100000000) :
  Calls Tryz.prog 311 #[.slice A xs.length c, .slice B xs.length d] w fun e w' => e = .returned (.bool true) ∧ Fut w w' := by
 have HA := Lib.hid ha
 have HB := Lib.hid hb
 have hxl : xs.length ≤ 9223372036854775807 := by omega
 clear ha hb
 go_enter Tryz.func311, Tryz.ntmps311
 go_wp2
 go_loopw [5] (fun i wr => ∃ k : Nat, k ≤ xs.length ∧ i = .int .i64 k ∧ Hid (Fut w wr)) (fun i _ => xs.length - (intOf i).toNat)
 case atStart => exact ⟨0, Nat.zero_le _, rfl, Lib.hid (Fut.refl _)⟩
 case round =>
  obtain ⟨k, hk, rfl, hF⟩ := hrel
  by_cases hlt : k < xs.length
  ·have hltI : (k : Int) < xs.length := by omega
   have e0 : (0 : Int) ≤ k ∧ (k : Int) < xs.length := by omega
   obtain ⟨b1, o1, cs1, rfl, hr1, _, hc1⟩ := sl_row HA.out hlt
   obtain ⟨b2, o2, cs2, rfl, hr2, _, hc2⟩ := sl_row HB.out hlt
   obtain rfl := hr1.cs
   obtain rfl := hr2.cs
   generalize xs[k] = z at *
   have FW := hF.out
   have s0 := FW.cell (show w.cell? ⟨b1, o1 + k * 4, none⟩ = some _ from hc1 0 _ rfl)
   have s1 := FW.cell (show w.cell? ⟨b1, o1 + k * 4 + 1, none⟩ = some _ from hc1 1 _ rfl)
   have s2 := FW.cell (show w.cell? ⟨b1, o1 + k * 4 + 2, none⟩ = some _ from hc1 2 _ rfl)
   have s3 := FW.cell (show w.cell? ⟨b1, o1 + k * 4 + 3, none⟩ = some _ from hc1 3 _ rfl)
   have t0 := FW.cell (show w.cell? ⟨b2, o2 + k * 4, none⟩ = some _ from hc2 0 _ rfl)
   have t1 := FW.cell (show w.cell? ⟨b2, o2 + k * 4 + 1, none⟩ = some _ from hc2 1 _ rfl)
   have t2 := FW.cell (show w.cell? ⟨b2, o2 + k * 4 + 2, none⟩ = some _ from hc2 2 _ rfl)
   have t3 := FW.cell (show w.cell? ⟨b2, o2 + k * 4 + 3, none⟩ = some _ from hc2 3 _ rfl)
   clear FW hc1 hc2 hr1 hr2
   go_wp2
   refine wp_graph 9 [.d, .d, .d, .d, .d, .d, .d, .d, .d] (by kernel_rfl) (by kernel_rfl) (by kernel_rfl) ?_
   simp only [takS, Exs]
   iterate 9 apply Exists.intro
   apply Run.valG (wanted_none rfl _)
   ·intro w1 h1 hk
    have r0 := h1.cell s0; have r1 := h1.cell s1; have r2 := h1.cell s2; have r3 := h1.cell s3; have r4 := h1.cell t0; have r5 := h1.cell t1; have r6 := h1.cell t2; have r7 := h1.cell t3
    have hcw := fun b o => Below.cell (p := ⟨b, o, none⟩) h1
    go_simp; rfl
   simp only [actS]
   apply Run.valG (wanted_none rfl _)
   ·intro w1 h1 hk
    have r0 := h1.cell s0; have r1 := h1.cell s1; have r2 := h1.cell s2; have r3 := h1.cell s3; have r4 := h1.cell t0; have r5 := h1.cell t1; have r6 := h1.cell t2; have r7 := h1.cell t3
    have hcw := fun b o => Below.cell (p := ⟨b, o, none⟩) h1
    go_simp; rfl
   simp only [actS]
   apply Run.valG (wanted_none rfl _)
   ·intro w1 h1 hk
    have r0 := h1.cell s0; have r1 := h1.cell s1; have r2 := h1.cell s2; have r3 := h1.cell s3; have r4 := h1.cell t0; have r5 := h1.cell t1; have r6 := h1.cell t2; have r7 := h1.cell t3
    have hcw := fun b o => Below.cell (p := ⟨b, o, none⟩) h1
    go_simp; rfl
   simp only [actS]
   apply Run.valG (wanted_none rfl _)
   ·intro w1 h1 hk
    have r0 := h1.cell s0; have r1 := h1.cell s1; have r2 := h1.cell s2; have r3 := h1.cell s3; have r4 := h1.cell t0; have r5 := h1.cell t1; have r6 := h1.cell t2; have r7 := h1.cell t3
    have hcw := fun b o => Below.cell (p := ⟨b, o, none⟩) h1
    go_simp; rfl
   simp only [actS]
   apply Run.valG (wanted_none rfl _)
   ·intro w1 h1 hk
    have r0 := h1.cell s0; have r1 := h1.cell s1; have r2 := h1.cell s2; have r3 := h1.cell s3; have r4 := h1.cell t0; have r5 := h1.cell t1; have r6 := h1.cell t2; have r7 := h1.cell t3
    have hcw := fun b o => Below.cell (p := ⟨b, o, none⟩) h1
    go_simp; rfl
   simp only [actS]
   apply Run.valG (wanted_none rfl _)
   ·intro w1 h1 hk
    have r0 := h1.cell s0; have r1 := h1.cell s1; have r2 := h1.cell s2; have r3 := h1.cell s3; have r4 := h1.cell t0; have r5 := h1.cell t1; have r6 := h1.cell t2; have r7 := h1.cell t3
    have hcw := fun b o => Below.cell (p := ⟨b, o, none⟩) h1
    go_simp; rfl
   simp only [actS]
   apply Run.valG (wanted_none rfl _)
   ·intro w1 h1 hk
    have r0 := h1.cell s0; have r1 := h1.cell s1; have r2 := h1.cell s2; have r3 := h1.cell s3; have r4 := h1.cell t0; have r5 := h1.cell t1; have r6 := h1.cell t2; have r7 := h1.cell t3
    have hcw := fun b o => Below.cell (p := ⟨b, o, none⟩) h1
    go_simp; rfl
   simp only [actS]
   apply Run.valG (wanted_none rfl _)
   ·intro w1 h1 hk
    have r0 := h1.cell s0; have r1 := h1.cell s1; have r2 := h1.cell s2; have r3 := h1.cell s3; have r4 := h1.cell t0; have r5 := h1.cell t1; have r6 := h1.cell t2; have r7 := h1.cell t3
    have hcw := fun b o => Below.cell (p := ⟨b, o, none⟩) h1
    go_simp; rfl
   simp only [actS]
   apply Run.valG (wanted_none rfl _)
   ·intro w1 h1 hk
    have r0 := h1.cell s0; have r1 := h1.cell s1; have r2 := h1.cell s2; have r3 := h1.cell s3; have r4 := h1.cell t0; have r5 := h1.cell t1; have r6 := h1.cell t2; have r7 := h1.cell t3
    have hcw := fun b o => Below.cell (p := ⟨b, o, none⟩) h1
    go_simp; rfl
   simp only [actS]
   apply Run.done
   intro w2 h2 hk
   clear hk
   have F9 := Lib.hid (hF.out.trans ((Fut.drew _).trans h2))
   clear h2
   go_wp2
   go_roundw
   case rel => exact ⟨k + 1, by omega, by go_num, F9⟩
   case measure => simp [intOf] <;> omega
  ·obtain rfl : k = xs.length := by omega
   go_wp2
   go_ret
   exact ⟨rfl, hF.out⟩
set_option maxHeartbeats 2000000 in
theorem leftTm_any {M B : Nat} (t a : Value) (xs : List Tm) (w : World) (hP : Pows w) (ht : TwTm B w t xs) (ha : SlRep 4 M RTm w a xs) (hn : xs.length ≤ 100000000) :
  Calls Tryz.prog 289 #[t, a] w fun e w' => e = .returned (.bool true) ∧ Fut w w' := by
 obtain ⟨g, _, rfl, hmk⟩ := TwinE.mark ht rfl (by decide)
 obtain ⟨A, c, rfl, hc1, hc2⟩ := ha.form
 have HS := Lib.hid (sameTm_any _ A _ c xs w (ht.rep ha) ha hn)
 have HI := Lib.hid (fun W hW => isTm_any W hW)
 have hmk9 := Lib.hid hmk
 have hP9 := Lib.hid hP
 have hxl : xs.length ≤ 9223372036854775807 := by omega
 have hiN := infoTmN
 have e1 : (0 : Int) ≤ xs.length ∧ (xs.length : Int) < xs.length + 1 := by omega
 clear ht ha hmk hP
 go_enter Tryz.func289, Tryz.ntmps289
 go_wp2_with fail
 refine HS.out.mono ?_
 rintro e w1 ⟨rfl, f1⟩
 have hcs9 := Lib.hid (fun j u (hj : mkTm[j]? = some u) => f1.cell (hmk9.out j u hj))
 have F1 := Lib.hid f1
 clear f1 HS
 go_wp2_with (first | (show wpList _ _ _ (Oper.mk _ (Op.load _ _) _ _ _ _ :: _) _ _; refine wpList_loadG (by go_simp) _ _ rfl g (xs.length * 4) rfl mkTm _ hcs9.out Tryz.underlying114 rfl hiN ?_))
 refine (HI.out _ (hP9.out.fut F1.out)).mono ?_
 rintro e w2 ⟨rfl, f2⟩
 have F2 := F1.out.trans f2
 clear f2
 go_wp2
 go_ret
 exact ⟨rfl, F2⟩
theorem TwAr.rep {M B : Nat} {w w0 : World} {v a : Value} {xs : List Ar} (h : TwAr B w v xs) (hr : SlRep 5 M RAr w0 a xs) : SlRep 5 (xs.length + 1) RAr w v xs :=
 TwinE.rep h (fun g cs x hx he => by
  obtain ⟨cs', h9⟩ := sl_each hr x hx
  exact ⟨he, h9.2⟩) (Nat.le_refl _)
set_option maxHeartbeats 2000000 in
theorem sameAr_any {M M' : Nat} (A B : Option Addr) (c d : Nat) (xs : List Ar) (w : World) (ha : SlRep 5 M RAr w (.slice A xs.length c) xs) (hb : SlRep 5 M' RAr w (.slice B xs.length d) xs) (hn : xs.length ≤ 100000000) :
  Calls Tryz.prog 213 #[.slice A xs.length c, .slice B xs.length d] w fun e w' => e = .returned (.bool true) ∧ Fut w w' := by
 have HA := Lib.hid ha
 have HB := Lib.hid hb
 have hxl : xs.length ≤ 9223372036854775807 := by omega
 clear ha hb
 go_enter Tryz.func213, Tryz.ntmps213
 go_wp2
 go_loopw [5] (fun i wr => ∃ k : Nat, k ≤ xs.length ∧ i = .int .i64 k ∧ Hid (Fut w wr)) (fun i _ => xs.length - (intOf i).toNat)
 case atStart => exact ⟨0, Nat.zero_le _, rfl, Lib.hid (Fut.refl _)⟩
 case round =>
  obtain ⟨k, hk, rfl, hF⟩ := hrel
  by_cases hlt : k < xs.length
  ·have hltI : (k : Int) < xs.length := by omega
   have e0 : (0 : Int) ≤ k ∧ (k : Int) < xs.length := by omega
   obtain ⟨b1, o1, cs1, rfl, hr1, _, hc1⟩ := sl_row HA.out hlt
   obtain ⟨b2, o2, cs2, rfl, hr2, _, hc2⟩ := sl_row HB.out hlt
   obtain rfl := hr1.cs
   obtain rfl := hr2.cs
   generalize xs[k] = z at *
   have FW := hF.out
   have s0 := FW.cell (show w.cell? ⟨b1, o1 + k * 5, none⟩ = some _ from hc1 0 _ rfl)
   have s1 := FW.cell (show w.cell? ⟨b1, o1 + k * 5 + 1, none⟩ = some _ from hc1 1 _ rfl)
   have s2 := FW.cell (show w.cell? ⟨b1, o1 + k * 5 + 2, none⟩ = some _ from hc1 2 _ rfl)
   have s3 := FW.cell (show w.cell? ⟨b1, o1 + k * 5 + 3, none⟩ = some _ from hc1 3 _ rfl)
   have s4 := FW.cell (show w.cell? ⟨b1, o1 + k * 5 + 4, none⟩ = some _ from hc1 4 _ rfl)
   have t0 := FW.cell (show w.cell? ⟨b2, o2 + k * 5, none⟩ = some _ from hc2 0 _ rfl)
   have t1 := FW.cell (show w.cell? ⟨b2, o2 + k * 5 + 1, none⟩ = some _ from hc2 1 _ rfl)
   have t2 := FW.cell (show w.cell? ⟨b2, o2 + k * 5 + 2, none⟩ = some _ from hc2 2 _ rfl)
   have t3 := FW.cell (show w.cell? ⟨b2, o2 + k * 5 + 3, none⟩ = some _ from hc2 3 _ rfl)
   have t4 := FW.cell (show w.cell? ⟨b2, o2 + k * 5 + 4, none⟩ = some _ from hc2 4 _ rfl)
   clear FW hc1 hc2 hr1 hr2
   go_wp2
   refine wp_graph 9 [.d, .d, .d, .d, .d, .d, .d, .d, .d] (by kernel_rfl) (by kernel_rfl) (by kernel_rfl) ?_
   simp only [takS, Exs]
   iterate 9 apply Exists.intro
   apply Run.valG (wanted_none rfl _)
   ·intro w1 h1 hk
    have r0 := h1.cell s0; have r1 := h1.cell s1; have r2 := h1.cell s2; have r3 := h1.cell s3; have r4 := h1.cell t0; have r5 := h1.cell t1; have r6 := h1.cell t2; have r7 := h1.cell t3; have r8 := h1.cell s4; have r9 := h1.cell t4
    have hcw := fun b o => Below.cell (p := ⟨b, o, none⟩) h1
    go_simp; rfl
   simp only [actS]
   apply Run.valG (wanted_none rfl _)
   ·intro w1 h1 hk
    have r0 := h1.cell s0; have r1 := h1.cell s1; have r2 := h1.cell s2; have r3 := h1.cell s3; have r4 := h1.cell t0; have r5 := h1.cell t1; have r6 := h1.cell t2; have r7 := h1.cell t3; have r8 := h1.cell s4; have r9 := h1.cell t4
    have hcw := fun b o => Below.cell (p := ⟨b, o, none⟩) h1
    go_simp; rfl
   simp only [actS]
   apply Run.valG (wanted_none rfl _)
   ·intro w1 h1 hk
    have r0 := h1.cell s0; have r1 := h1.cell s1; have r2 := h1.cell s2; have r3 := h1.cell s3; have r4 := h1.cell t0; have r5 := h1.cell t1; have r6 := h1.cell t2; have r7 := h1.cell t3; have r8 := h1.cell s4; have r9 := h1.cell t4
    have hcw := fun b o => Below.cell (p := ⟨b, o, none⟩) h1
    go_simp; rfl
   simp only [actS]
   apply Run.valG (wanted_none rfl _)
   ·intro w1 h1 hk
    have r0 := h1.cell s0; have r1 := h1.cell s1; have r2 := h1.cell s2; have r3 := h1.cell s3; have r4 := h1.cell t0; have r5 := h1.cell t1; have r6 := h1.cell t2; have r7 := h1.cell t3; have r8 := h1.cell s4; have r9 := h1.cell t4
    have hcw := fun b o => Below.cell (p := ⟨b, o, none⟩) h1
    go_simp; rfl
   simp only [actS]
   apply Run.valG (wanted_none rfl _)
   ·intro w1 h1 hk
    have r0 := h1.cell s0; have r1 := h1.cell s1; have r2 := h1.cell s2; have r3 := h1.cell s3; have r4 := h1.cell t0; have r5 := h1.cell t1; have r6 := h1.cell t2; have r7 := h1.cell t3; have r8 := h1.cell s4; have r9 := h1.cell t4
    have hcw := fun b o => Below.cell (p := ⟨b, o, none⟩) h1
    go_simp; rfl
   simp only [actS]
   apply Run.valG (wanted_none rfl _)
   ·intro w1 h1 hk
    have r0 := h1.cell s0; have r1 := h1.cell s1; have r2 := h1.cell s2; have r3 := h1.cell s3; have r4 := h1.cell t0; have r5 := h1.cell t1; have r6 := h1.cell t2; have r7 := h1.cell t3; have r8 := h1.cell s4; have r9 := h1.cell t4
    have hcw := fun b o => Below.cell (p := ⟨b, o, none⟩) h1
    go_simp; rfl
   simp only [actS]
   apply Run.valG (wanted_none rfl _)
   ·intro w1 h1 hk
    have r0 := h1.cell s0; have r1 := h1.cell s1; have r2 := h1.cell s2; have r3 := h1.cell s3; have r4 := h1.cell t0; have r5 := h1.cell t1; have r6 := h1.cell t2; have r7 := h1.cell t3; have r8 := h1.cell s4; have r9 := h1.cell t4
    have hcw := fun b o => Below.cell (p := ⟨b, o, none⟩) h1
    go_simp; rfl
   simp only [actS]
   apply Run.valG (wanted_none rfl _)
   ·intro w1 h1 hk
    have r0 := h1.cell s0; have r1 := h1.cell s1; have r2 := h1.cell s2; have r3 := h1.cell s3; have r4 := h1.cell t0; have r5 := h1.cell t1; have r6 := h1.cell t2; have r7 := h1.cell t3; have r8 := h1.cell s4; have r9 := h1.cell t4
    have hcw := fun b o => Below.cell (p := ⟨b, o, none⟩) h1
    go_simp; rfl
   simp only [actS]
   apply Run.valG (wanted_none rfl _)
   ·intro w1 h1 hk
    have r0 := h1.cell s0; have r1 := h1.cell s1; have r2 := h1.cell s2; have r3 := h1.cell s3; have r4 := h1.cell t0; have r5 := h1.cell t1; have r6 := h1.cell t2; have r7 := h1.cell t3; have r8 := h1.cell s4; have r9 := h1.cell t4
    have hcw := fun b o => Below.cell (p := ⟨b, o, none⟩) h1
    go_simp; rfl
   simp only [actS]
   apply Run.done
   intro w2 h2 hk
   clear hk
   have F9 := Lib.hid (hF.out.trans ((Fut.drew _).trans h2))
   clear h2
   go_wp2
   go_roundw
   case rel => exact ⟨k + 1, by omega, by go_num, F9⟩
   case measure => simp [intOf] <;> omega
  ·obtain rfl : k = xs.length := by omega
   go_wp2
   go_ret
   exact ⟨rfl, hF.out⟩
set_option maxHeartbeats 2000000 in
theorem leftAr_any {M B : Nat} (t a : Value) (xs : List Ar) (w : World) (hP : Pows w) (ht : TwAr B w t xs) (ha : SlRep 5 M RAr w a xs) (hn : xs.length ≤ 100000000) :
  Calls Tryz.prog 95 #[t, a] w fun e w' => e = .returned (.bool true) ∧ Fut w w' := by
 obtain ⟨g, _, rfl, hmk⟩ := TwinE.mark ht rfl (by decide)
 obtain ⟨A, c, rfl, hc1, hc2⟩ := ha.form
 have HS := Lib.hid (sameAr_any _ A _ c xs w (ht.rep ha) ha hn)
 have HI := Lib.hid (fun W hW => isAr_any W hW)
 have hmk9 := Lib.hid hmk
 have hP9 := Lib.hid hP
 have hxl : xs.length ≤ 9223372036854775807 := by omega
 have hiN := infoArN
 have e1 : (0 : Int) ≤ xs.length ∧ (xs.length : Int) < xs.length + 1 := by omega
 clear ht ha hmk hP
 go_enter Tryz.func95, Tryz.ntmps95
 go_wp2_with fail
 refine HS.out.mono ?_
 rintro e w1 ⟨rfl, f1⟩
 have hcs9 := Lib.hid (fun j u (hj : mkAr[j]? = some u) => f1.cell (hmk9.out j u hj))
 have F1 := Lib.hid f1
 clear f1 HS
 go_wp2_with (first | (show wpList _ _ _ (Oper.mk _ (Op.load _ _) _ _ _ _ :: _) _ _; refine wpList_loadG (by go_simp) _ _ rfl g (xs.length * 5) rfl mkAr _ hcs9.out Tryz.underlying148 rfl hiN ?_))
 refine (HI.out _ (hP9.out.fut F1.out)).mono ?_
 rintro e w2 ⟨rfl, f2⟩
 have F2 := F1.out.trans f2
 clear f2
 go_wp2
 go_ret
 exact ⟨rfl, F2⟩
def SameOrNew (w : World) (v v' : Value) : Prop := v'.ownBlock = v.ownBlock ∨ ∀ k, v'.ownBlock = some k → w.heap.size ≤ k
theorem append_block {P : Program} {w w' : World} {v' : Value} (base : Nat) (t ty e : TypeId) (i : TypeInfo) (z : Value) (size bytes : Nat) (ht : P.underlying t = some (.slice e)) (hi : P.info? e = some i) (hz : i.zero = some z)
  (hsize : i.size = size) (hby : i.bytes = bytes) (hzs : z.cells.size = size) (hsz : 0 < size)
  (v : Value) (n : Nat) (xs : List Value) (hown : w.ownsRow base e size v n xs)
  (a : Addr) (m c : Nat) (news : List Value) (hl : news.length = m * size) (hnews : ∀ j u, news[j]? = some u → w.cell? (a.add j) = some u) (h1 : ∀ u ∈ news, u.oneCell' = true)
  (h63 : n + m ≤ maxLen) (hbytes : (n + m) * bytes ≤ 140737488355328) (hbase : base ≤ w.heap.size)
  (hr : (Builtin.append_ #[t, t] ty #[v, .slice (some a) m c]).run P w = .ok v' w') : SameOrNew w v v' := by
 subst hsize
 subst hby
 rcases hown.2 with ⟨rfl, rfl⟩ | ⟨g, cap, cur, rfl, hbg, hg, hnc, hcm, hcs, htake⟩
 ·have hx : xs = [] := List.eq_nil_of_length_eq_zero (by simpa using hown.1)
  subst hx
  obtain ⟨v2, w2, r1, r2, _, _⟩ := run_append_own (P := P) (w := w) w.heap.size t ty e i z i.size i.bytes ht hi hz rfl rfl hzs hsz (.slice none 0 0) 0 [] (World.ownsRow_nil w _ e _) a m c news hl hnews h1 h63 hbytes (Nat.le_refl _)
  rw [hr] at r1
  injection r1 with e1 e2
  subst e1
  exact .inr fun k hk => (r2.lt k hk).1
 ·by_cases hroom : n + m ≤ cap
  ·have hfit : n * i.size + news.length ≤ cur.size := by rw [hl, hcs, ← Nat.add_mul]; exact Nat.mul_le_mul_right _ hroom
   have r1 := run_append_room (P := P) w t ty e i ht hi g n cap cur hg a m c news hl hnews h1 hroom hfit
   rw [hr] at r1
   injection r1 with e1 e2
   subst e1
   exact .inl rfl
  ·have holds : ∀ j u, xs[j]? = some u → w.cell? ((⟨g, 0, none⟩ : Addr).add j) = some u := hown.cells (g := g) rfl
   have hsmall : n + m ≤ 9223372036854775807 := by simp only [maxLen] at h63; omega
   have r1 := run_append_grow (P := P) w t ty e i z ht hi hz ⟨g, 0, none⟩ n cap xs hown.1 holds a m c news hl hnews (by omega) (by omega) (growslice_fits (by omega) hbytes)
   rw [hr] at r1
   injection r1 with e1 e2
   subst e1
   exact .inr fun k hk => by
    have h9 : w.heap.size = k := by simpa [Value.ownBlock] using hk
    omega
section
variable {α : Type} {sz B M : Nat} {e : TypeId} {R : World → List Value → α → Prop} {w w' : World} {v u : Value} {xs ys : List α}
theorem run_append_listB {P : Program} (t ty : TypeId) (i : TypeInfo) (z : Value) (bytes : Nat) (ht : P.underlying t = some (.slice e)) (hi : P.info? e = some i) (hz : i.zero = some z) (hsize : i.size = sz) (hby : i.bytes = bytes) (hzs : z.cells.size = sz) (hsz : 0 < sz)
  (hR1 : ∀ w cs x, R w cs x → ∀ u ∈ cs, u.oneCell' = true) (hRk : ∀ w' cs (x : α), R w cs x → w.grownBy w' v.ownBlock → R w' cs x)
  (h : OwnL sz B e R w v xs) (hu : SlRep sz M R w u ys) (h63 : xs.length + ys.length ≤ maxLen) (hbytes : (xs.length + ys.length) * bytes ≤ 140737488355328) (hbase : B ≤ w.heap.size) :
  ∃ v' w', (Builtin.append_ #[t, t] ty #[v, u]).run P w = .ok v' w' ∧ OwnL sz B e R w' v' (xs ++ ys) ∧ w.grownBy w' v.ownBlock ∧ SameOrNew w v v' := by
 have h0 := h
 obtain ⟨css, h1, h2, h3⟩ := h
 obtain ⟨A, cap, rfl, hl, hm, hx⟩ := hu
 have hgrow : ∀ w', w.grownBy w' v.ownBlock → ∀ (i : Nat) (cs : List Value) (x : α), css[i]? = some cs → xs[i]? = some x → cs.length = sz ∧ R w' cs x := fun w' hg i cs x hi hx => ⟨(h2 i cs x hi hx).1, hRk _ _ _ (h2 i cs x hi hx).2 hg⟩
 cases A with
 | none =>
  have hy : ys = [] := by
   cases ys with
   | nil => rfl
   | cons y r => obtain ⟨_, _, _, hA, _⟩ := hx 0 y rfl; cases hA
  subst hy
  obtain ⟨A', cap', hv, hl', _⟩ := h0.rep.form
  subst hv
  exact ⟨_, w, run_append_none t ty i ht hi A' _ cap' cap hl' w, by rw [List.append_nil]; exact h0, World.grownBy.refl w _, .inl rfl⟩
 | some a =>
  obtain ⟨news, hnl, hnews⟩ := exists_list (p := fun k (cs : List Value) => ∃ y, ys[k]? = some y ∧ cs.length = sz ∧ R w cs y ∧ ∀ j c, cs[j]? = some c → w.cell? (a.add (k * sz + j)) = some c) ys.length fun k hk => by
   obtain ⟨b, off, cs, hA, b1, b2, b3⟩ := hx k _ (List.getElem?_eq_getElem hk)
   injection hA with hA
   subst hA
   refine ⟨cs, _, List.getElem?_eq_getElem hk, b1, b3, fun j c hj => ?_⟩
   rw [← b2 j c hj]
   rw [Addr.add_lit]
  have hs : ∀ (i : Nat) (cs : List Value), news[i]? = some cs → cs.length = sz := fun i cs hi => by obtain ⟨y, _, b1, _⟩ := hnews i cs hi; exact b1
  have hcells : ∀ j u, news.flatten[j]? = some u → w.cell? (a.add j) = some u := fun j u hj => by
   have hjl : j < news.length * sz := by
    have := (List.getElem?_eq_some_iff.1 hj).1
    rwa [flatten_len hs] at this
   have hk : j / sz < news.length := Nat.div_lt_of_lt_mul (by rw [Nat.mul_comm]; exact hjl)
   obtain ⟨y, _, b1, _, b2⟩ := hnews (j / sz) _ (List.getElem?_eq_getElem hk)
   have hr : j % sz < (news[j / sz]).length := by rw [b1]; exact Nat.mod_lt _ hsz
   have e1 := flatten_at hs (j / sz) (j % sz) _ _ (List.getElem?_eq_getElem hk) (List.getElem?_eq_getElem hr)
   have e2 := b2 (j % sz) _ (List.getElem?_eq_getElem hr)
   rw [show j / sz * sz + j % sz = j by rw [Nat.mul_comm]; exact Nat.div_add_mod j sz] at e1 e2
   rw [hj] at e1
   rw [e2, ← e1]
  have hone : ∀ u ∈ news.flatten, u.oneCell' = true := fun u hu => by
   obtain ⟨cs, hc, hu⟩ := List.mem_flatten.1 hu
   obtain ⟨k, hk⟩ := List.getElem?_of_mem hc
   obtain ⟨y, _, _, b3, _⟩ := hnews k cs hk
   exact hR1 _ _ _ b3 u hu
  obtain ⟨v', w', r1, r2, r3, _⟩ := run_append_own (P := P) (w := w) B t ty e i z sz bytes ht hi hz hsize hby hzs hsz v xs.length css.flatten h3 a ys.length cap news.flatten (by rw [flatten_len hs, hnl]) hcells hone h63 hbytes hbase
  have r4 := append_block B t ty e i z sz bytes ht hi hz hsize hby hzs hsz v xs.length css.flatten h3 a ys.length cap news.flatten (by rw [flatten_len hs, hnl]) hcells hone h63 hbytes hbase r1
  refine ⟨v', w', r1, ⟨css ++ news, by simp [h1, hnl], fun k cs x hk hx' => ?_, by rw [List.flatten_append, List.length_append]; exact r2⟩, r3, r4⟩
  rcases Nat.lt_or_ge k css.length with h' | h'
  ·rw [List.getElem?_append_left h'] at hk
   rw [List.getElem?_append_left (by omega)] at hx'
   exact hgrow w' r3 k cs x hk hx'
  ·rw [List.getElem?_append_right h'] at hk
   rw [List.getElem?_append_right (by omega)] at hx'
   obtain ⟨y, e1, b1, b3, _⟩ := hnews _ _ hk
   rw [h1, hx'] at e1
   obtain rfl := Option.some.inj e1
   exact ⟨b1, hRk _ _ _ b3 r3⟩
theorem wpList_append_LB {P : Program} {ops : Array Oper} {rest : List Oper} {o : Oper} {a : Act} {Q : Exit → Act → World → Prop} (hgd : Region.wanted o (yielded ops a.tmps) = true) (s x : Operand) (t : TypeId)
  (ho : o.op = .call { callee := .builtin .append, args := #[s, x], argTypes := #[t, t] }) (ht : P.underlying t = some (.slice e)) (z : Value) (bytes : Nat)
  (hinfo : (P.info? e).map (fun i => (i.zero, i.size, i.bytes)) = some (some z, sz, bytes)) (hzs : z.cells.size = sz) (hsz : 0 < sz)
  (hR1 : ∀ w cs x, R w cs x → ∀ u ∈ cs, u.oneCell' = true) (hRk : Keeps e R)
  (hs : a.eval s = v) (hx : a.eval x = u) (hown : OwnL sz B e R w v xs) (hu : SlRep sz M R w u ys) (h63 : xs.length + ys.length ≤ maxLen) (hbytes : (xs.length + ys.length) * bytes ≤ 140737488355328) (hbase : B ≤ w.heap.size)
  (h : ∀ v' w', OwnL sz B e R w' v' (xs ++ ys) → w.grownBy w' v.ownBlock → SameOrNew w v v' → wpList P ops Q rest (a.put o.dst v') w') : wpList P ops Q (o :: rest) a w := by
 obtain ⟨i, hi, hz, hs', hb⟩ := info_parts hinfo
 obtain ⟨v', w', hr, h2, h3, h4⟩ := run_append_listB t o.type i z bytes ht hi hz hs' hb hzs hsz hR1 (fun w' cs x hr hg => hRk w w' _ cs x hr hg hown.typed) hown hu h63 hbytes hbase
 refine wpList_step fun K hK => ?_
 rw [if_pos hgd]
 unfold Oper.wp
 have hrun : (execOp a.eval o).run P w = .ok (.value v') w' := by
  unfold execOp
  simp only [ho, resolve, invoke, builtin, Sem.run_bind, Sem.run_pure, Result.andThen_ok, List.map_toArray, List.map_cons, List.map_nil, hs, hx, hr]
 rw [hrun]
 exact hK _ _ (h v' w' h2 h3 h4)
end
end Go.Proofs.YtdjffkkbjbiihaaGreatDoor
