/- RelationPicks, walked. -/
import Derived.Test.YtcekphjcmippoaaPick
namespace Go.Proofs.Ytcekphjcmippoaa
open Go.RowKit Go.WideMaps
set_option linter.unusedSimpArgs false
set_option linter.unusedVariables false

theorem select_any {B : Nat} {w : World} {b pb mb : Nat} {lv : Value} {ar gone m : Nat} {xs : List Rw} (hm : m < 2 ^ 32) (h : RelI B w b pb mb lv ar gone xs) (hl : xs.length ≤ 1407374883512) (x : Rw) (hx : Rw.ok x) :
    Calls Try.prog 17 #[.pointer (some ⟨b, 0, none⟩), .int .u32 m, Rw.val x] w fun e w' => ∃ v, e = .returned v ∧ OwnL 1 w.heap.size 3 RI w' v (selL ar m x xs) ∧ Fut w w' :=
  select_core hm (fun W hW => arity_any (h.fut hW)) (fun W hW => len_any (h.fut hW)) (fun W lb hW hs => range_iter (h.fut hW) hl 0 _ lb hs) (rows_ok h.pl.list.rep) hl x hx
/-- The cells of a Pick. -/
def pickCells (v : Value) (m n : Nat) (x : Rw) : List Value := v :: .int .u32 m :: .int .u32 n :: Rw.cells x
theorem pick_row {w : World} {t : TypeId} {v : Value} {m n : Nat} {x : Rw} (hx : Rw.ok x) : RowAt (w.alloc (.cells (pickCells v m n x).toArray t)) w.heap.size 3 x := ⟨hx, fun j c hj => by
  refine cell_at (heap_alloc_new w _) (3 + j) c ?_
  simpa [pickCells, show 3 + j = j + 1 + 1 + 1 by omega] using hj⟩
theorem exec_alloc_R {w : World} {o : Oper} {a : Act} (ho : o.op = .alloc 32) : (execOp a.eval o).run Try.prog w = .ok (.value (.pointer (some ⟨w.heap.size, 0, none⟩))) (w.alloc (.cells (Rw.cells zeroRow).toArray 32)) := by
  unfold execOp
  rw [ho]
  kernel_rfl
theorem cells_getD {y : Rw} (hy : Rw.ok y) {q : Nat} (hq : q < 24) : (Rw.cells y)[q]? = some (.int .i32 (y.getD q 0)) := by
  have h : q < y.length := by rw [hy.1]; exact hq
  simp [Rw.cells, List.getD, h]
theorem fitB_step (m : Nat) (y x : Rw) (q : Nat) : fitB m y x (q + 1) = (fitB m y x q && ((y[q]?.getD 0 == x[q]?.getD 0) || !m.testBit q)) := by
  have e : decide (y.getD q 0 = x.getD q 0) = (y[q]?.getD 0 == x[q]?.getD 0) := by
    rw [Bool.eq_iff_iff, decide_eq_true_iff, beq_iff_eq]
    exact Iff.rfl
  rw [fitB, e]
theorem bit15 {q : Nat} (hq : q < 4) : Nat.testBit 15 q = true := by
  match q, hq with
  | 0, _ => rfl
  | 1, _ => rfl
  | 2, _ => rfl
  | 3, _ => rfl
theorem shr_is {m k : Nat} (hm : m < 2 ^ 32) : (bits .and .u32 ((m : Int) / 2 ^ k) 1 == 0) = !m.testBit k := by
  have := shr_bit (m := m) (k := k) hm
  rw [show ((m / 2 ^ k : Nat) : Int) = (m : Int) / 2 ^ k by simp] at this
  rw [Bool.eq_iff_iff, beq_iff_eq, this]
  cases m.testBit k <;> simp
theorem pick_at {w : World} {A : Option Addr} {cap M m : Nat} {x y : Rw} {xs : List Rw} (H : SlRep 1 M RI w (.slice A (selL 4 m x xs).length cap) (selL 4 m x xs)) {k : Nat} (hk : k < xs.length) (hgd : xs.getD k zeroRow = y) (hy : Rw.ok y) (hx : Rw.ok x) :
    (fitB m y x 4 = true ∧ (selK 4 m x xs k).length < (selL 4 m x xs).length ∧ (selK 4 m x xs (k + 1)).length = (selK 4 m x xs k).length + 1 ∧ ∃ b o, A = some ⟨b, o, none⟩ ∧ w.cell? ⟨b, o + (selK 4 m x xs k).length, none⟩ = some (.int .i64 k)) ∨
    (fitB m y x 4 = false ∧ (selK 4 m x xs (k + 1)).length = (selK 4 m x xs k).length) := by
  rw [fit_cut (by omega) hy hx]
  by_cases he : cutL 4 m y = cutL 4 m x
  · obtain ⟨h1, h2, h3⟩ := selK_at (m := m) (ar := 4) (x := x) hk (by rw [hgd]; exact he)
    exact .inl ⟨decide_eq_true he, h1, h3, int_at H h2⟩
  · exact .inr ⟨decide_eq_false he, selK_off (by rw [hgd]; exact he)⟩
set_option maxHeartbeats 8000000 in
set_option maxRecDepth 100000 in
theorem picks_walk (v : Value) (l : List Tn) (m n : Nat) (hm : m < 2 ^ 32) (hn : n < 2 ^ 32) (x : Rw) (hx : Rw.ok x) (w : World) (M : Nat) (h : SlRep 25 M RTn w v l) (hl : l.length ≤ 1407374883512) :
    Calls Try.prog 4 #[.agg (pickCells v m n x).toArray] w fun e w' => e = .returned (.bool true) ∧ Fut w w' := by
  have H := Lib.hid h
  have X := Lib.hid hx
  obtain ⟨A, cap, rfl, hcl, hcm⟩ := h.form
  clear h
  go_enter Try.func4, Try.ntmps4
  go_wp2_with fail
  have hrow := pick_row (w := w) (t := 45) (v := .slice A l.length cap) (m := m) (n := n) X.out
  have c0 : (w.alloc (.cells (pickCells (.slice A l.length cap) m n x).toArray 45)).cell? ⟨w.heap.size, 0, none⟩ = some (.slice A l.length cap) := cell_at (heap_alloc_new w _) 0 _ rfl
  have c1 : (w.alloc (.cells (pickCells (.slice A l.length cap) m n x).toArray 45)).cell? ⟨w.heap.size, 1, none⟩ = some (.int .u32 m) := cell_at (heap_alloc_new w _) 1 _ rfl
  have c2 : (w.alloc (.cells (pickCells (.slice A l.length cap) m n x).toArray 45)).cell? ⟨w.heap.size, 2, none⟩ = some (.int .u32 n) := cell_at (heap_alloc_new w _) 2 _ rfl
  have F1 := Fut.alloc w (.cells (pickCells (.slice A l.length cap) m n x).toArray 45)
  obtain ⟨W1, hW⟩ : ∃ W1, w.alloc (.cells (pickCells (.slice A l.length cap) m n x).toArray 45) = W1 := ⟨_, rfl⟩
  rw [hW] at hrow c0 c1 c2 F1 ⊢
  clear hW
  refine wp_graph 12 [.d, .d, .d, .d, .d, .d, .d, .d, .r (fun v w => ∃ b, v = .pointer (some ⟨b, 0, none⟩) ∧ W1.heap.size ≤ b ∧ w.heap[b]? = some (.cells (Rw.cells zeroRow).toArray 32 (0, 0))), .d, .d, .d] (by kernel_rfl) (by kernel_rfl) (by kernel_rfl) ?_
  simp only [List.take_succ_cons, List.take_zero, List.drop_succ_cons, List.drop_zero, Exs]
  iterate 11 apply Exists.intro
  apply Run.valG (wanted_none rfl _)
  · intro w1 h1 hk
    have q0 := h1.cell c0; have q1 := h1.cell c1; have q2 := h1.cell c2; have hg := (Fut.drew _).trans h1
    have hcw := fun b o => Below.cell (p := ⟨b, o, none⟩) h1
    go_simp; rfl
  simp only [Act.put, List.setIfInBounds_toArray, List.set_cons_succ, List.set_cons_zero, List.nil_append, List.cons_append]
  apply Run.valG (wanted_none rfl _)
  · intro w1 h1 hk
    have q0 := h1.cell c0; have q1 := h1.cell c1; have q2 := h1.cell c2; have hg := (Fut.drew _).trans h1
    have hcw := fun b o => Below.cell (p := ⟨b, o, none⟩) h1
    go_simp; rfl
  simp only [Act.put, List.setIfInBounds_toArray, List.set_cons_succ, List.set_cons_zero, List.nil_append, List.cons_append]
  apply Run.valG (wanted_none rfl _)
  · intro w1 h1 hk
    have q0 := h1.cell c0; have q1 := h1.cell c1; have q2 := h1.cell c2; have hg := (Fut.drew _).trans h1
    have hcw := fun b o => Below.cell (p := ⟨b, o, none⟩) h1
    go_simp; rfl
  simp only [Act.put, List.setIfInBounds_toArray, List.set_cons_succ, List.set_cons_zero, List.nil_append, List.cons_append]
  apply Run.valG (wanted_none rfl _)
  · intro w1 h1 hk
    have q0 := h1.cell c0; have q1 := h1.cell c1; have q2 := h1.cell c2; have hg := (Fut.drew _).trans h1
    have hcw := fun b o => Below.cell (p := ⟨b, o, none⟩) h1
    go_simp; rfl
  simp only [Act.put, List.setIfInBounds_toArray, List.set_cons_succ, List.set_cons_zero, List.nil_append, List.cons_append]
  apply Run.valG (wanted_none rfl _)
  · intro w1 h1 hk
    have q0 := h1.cell c0; have q1 := h1.cell c1; have q2 := h1.cell c2; have hg := (Fut.drew _).trans h1
    have hcw := fun b o => Below.cell (p := ⟨b, o, none⟩) h1
    go_simp; rfl
  simp only [Act.put, List.setIfInBounds_toArray, List.set_cons_succ, List.set_cons_zero, List.nil_append, List.cons_append]
  apply Run.valG (wanted_none rfl _)
  · intro w1 h1 hk
    have q0 := h1.cell c0; have q1 := h1.cell c1; have q2 := h1.cell c2; have hg := (Fut.drew _).trans h1
    have hcw := fun b o => Below.cell (p := ⟨b, o, none⟩) h1
    go_simp; rfl
  simp only [Act.put, List.setIfInBounds_toArray, List.set_cons_succ, List.set_cons_zero, List.nil_append, List.cons_append]
  apply Run.valG (wanted_none rfl _)
  · intro w1 h1 hk
    have q0 := h1.cell c0; have q1 := h1.cell c1; have q2 := h1.cell c2; have hg := (Fut.drew _).trans h1
    have hcw := fun b o => Below.cell (p := ⟨b, o, none⟩) h1
    go_simp; rfl
  simp only [Act.put, List.setIfInBounds_toArray, List.set_cons_succ, List.set_cons_zero, List.nil_append, List.cons_append]
  apply Run.valG (wanted_none rfl _)
  · intro w1 h1 hk
    have q0 := h1.cell c0; have q1 := h1.cell c1; have q2 := h1.cell c2; have hg := (Fut.drew _).trans h1
    have hcw := fun b o => Below.cell (p := ⟨b, o, none⟩) h1
    exact exec_load_R rowTy _ rfl rfl (hrow.fut hg)
  simp only [Act.put, List.setIfInBounds_toArray, List.set_cons_succ, List.set_cons_zero, List.nil_append, List.cons_append]
  apply Run.valR (wanted_none rfl _) (by intro v w w' hf hs; exact (by obtain ⟨b, rfl, hb, h⟩ := hs; exact ⟨b, rfl, hb, hf.block h⟩))
  · intro w1 h1 hk
    have q0 := h1.cell c0; have q1 := h1.cell c1; have q2 := h1.cell c2; have hg := (Fut.drew _).trans h1
    exact ⟨_, _, exec_alloc_R rfl, Fut.alloc _ _, _, rfl, hg.size, heap_alloc_new _ _⟩
  intro v8
  simp only [Act.put, List.setIfInBounds_toArray, List.set_cons_succ, List.set_cons_zero, List.nil_append, List.cons_append]
  apply Run.valG (wanted_none rfl _)
  · intro w1 h1 hk
    have q0 := h1.cell c0; have q1 := h1.cell c1; have q2 := h1.cell c2; have hg := (Fut.drew _).trans h1
    have hcw := fun b o => Below.cell (p := ⟨b, o, none⟩) h1
    go_simp; rfl
  simp only [Act.put, List.setIfInBounds_toArray, List.set_cons_succ, List.set_cons_zero, List.nil_append, List.cons_append]
  apply Run.valG (wanted_none rfl _)
  · intro w1 h1 hk
    have q0 := h1.cell c0; have q1 := h1.cell c1; have q2 := h1.cell c2; have hg := (Fut.drew _).trans h1
    have hcw := fun b o => Below.cell (p := ⟨b, o, none⟩) h1
    go_simp; rfl
  simp only [Act.put, List.setIfInBounds_toArray, List.set_cons_succ, List.set_cons_zero, List.nil_append, List.cons_append]
  apply Run.valG (wanted_none rfl _)
  · intro w1 h1 hk
    have q0 := h1.cell c0; have q1 := h1.cell c1; have q2 := h1.cell c2; have hg := (Fut.drew _).trans h1
    have hcw := fun b o => Below.cell (p := ⟨b, o, none⟩) h1
    go_simp; rfl
  simp only [Act.put, List.setIfInBounds_toArray, List.set_cons_succ, List.set_cons_zero, List.nil_append, List.cons_append]
  apply Run.done
  intro w2 h2 hk
  obtain ⟨f8, _⟩ := hk
  obtain ⟨bx, rfl, hbx, hZ⟩ := f8
  have F2 := F1.trans ((Fut.drew _).trans h2)
  clear h2 hrow c0 c1 c2
  have hbw : w.heap.size ≤ bx := Nat.le_trans F1.size hbx
  have hbl : bx < w2.heap.size := (Array.getElem?_eq_some_iff.1 hZ).1
  go_wp2_with (first | (refine wpList_store_R rowTy (wanted_none rfl _) _ _ rfl rfl rfl hZ rfl X.out ?_))
  have hrow := RowAt.of_block X.out (World.putObj_heap_same (o := .cells (Rw.cells x).toArray 32) hbl)
  have F3 := ((Only.fut F2).trans (Only.put (S := fun k => w.heap.size ≤ k) bx (.cells (Rw.cells x).toArray 32) hbw)).toFut fun k hk => hk
  obtain ⟨w3, hW⟩ : ∃ W, w2.putObj bx (.cells (Rw.cells x).toArray 32) = W := ⟨_, rfl⟩
  rw [hW] at hrow F3 ⊢
  clear hW hZ F2 hbl
  go_wp2_with fail
  refine (lives10 _).mono ?_
  rintro e w4 ⟨rfl, f4⟩
  replace F3 := F3.trans f4
  replace hrow := hrow.fut f4
  clear f4
  go_wp2_with fail
  refine (turned_any 4 (by omega) _ l w4 M (by omega) (H.out.fut RTn.stays F3)).mono ?_
  rintro e w5 ⟨b, pb, mb, lv, rv, rfl, hR, hO, hA, f5⟩
  have hright : ∀ y ∈ (turnsL 4 l).1, rightP 4 y = true := turns_right 4 l ([], 0) (fun x h => by simp at h)
  have hsum := turnsL_sum 4 l l.length (Nat.le_refl _)
  rw [List.take_length] at hsum
  generalize hT : turnsL 4 l = T at hR hO hsum hright
  obtain ⟨xs, g⟩ := T
  simp only at hR hO hsum hright
  have hoks := rows_ok hR.pl.list.rep
  have hnd := hR.pl.nodup
  have hone : (selL 4 15 x xs).length ≤ 1 := sel_one (by decide) X.out hoks hright hnd
  replace hrow := hrow.fut f5
  replace F3 := F3.trans f5
  clear f5 hA
  obtain ⟨Ar, capr, rfl, hcr, _⟩ := hO.rep.form
  go_wp2_with (first | (refine wpList_load_R rowTy (wanted_none rfl _) _ rfl rfl hrow ?_))
  refine (select_any (m := 0) (by decide) hR (by omega) x X.out).mono ?_
  rintro e w6 ⟨v0, rfl, hS0, f6⟩
  replace hR := hR.fut f6
  replace hO := hO.fut RR.stays f6
  replace hrow := hrow.fut f6
  replace F3 := F3.trans f6
  clear f6
  go_wp2_with (first | (refine wpList_load_R rowTy (wanted_none rfl _) _ rfl rfl hrow ?_))
  refine (select_any (m := 15) (by decide) hR (by omega) x X.out).mono ?_
  rintro e w7 ⟨v1, rfl, hS1, f7⟩
  replace hR := hR.fut f7
  replace hO := hO.fut RR.stays f7
  replace hrow := hrow.fut f7
  replace F3 := F3.trans f7
  replace hS0 := hS0.fut RI.stays f7
  clear f7
  go_wp2_with (first | (refine wpList_load_R rowTy (wanted_none rfl _) _ rfl rfl hrow ?_))
  refine (select_any hm hR (by omega) x X.out).mono ?_
  rintro e w8 ⟨v2, rfl, hS2, f8⟩
  replace hR := hR.fut f8
  replace hO := hO.fut RR.stays f8
  replace hrow := hrow.fut f8
  replace F3 := F3.trans f8
  replace hS0 := hS0.fut RI.stays f8
  replace hS1 := hS1.fut RI.stays f8
  clear f8
  go_wp2_with (first | (refine wpList_load_R rowTy (wanted_none rfl _) _ rfl rfl hrow ?_))
  rw [or_u32 hm hn]
  have hmn : m ||| n < 2 ^ 32 := Nat.or_lt_two_pow hm hn
  refine (select_any hmn hR (by omega) x X.out).mono ?_
  rintro e w9 ⟨v3, rfl, hS3, f9⟩
  replace hO := hO.fut RR.stays f9
  replace hrow := hrow.fut f9
  replace F3 := F3.trans f9
  replace hS0 := hS0.fut RI.stays f9
  replace hS1 := hS1.fut RI.stays f9
  replace hS2 := hS2.fut RI.stays f9
  clear f9 hR
  obtain ⟨A0, cap0, rfl, _, _⟩ := hS0.rep.form
  obtain ⟨A1, cap1, rfl, _, _⟩ := hS1.rep.form
  obtain ⟨A2, cap2, rfl, _, _⟩ := hS2.rep.form
  obtain ⟨A3, cap3, rfl, _, _⟩ := hS3.rep.form
  have HO := Lib.hid hO
  have HS0 := Lib.hid hS0.rep
  have HS1 := Lib.hid hS1.rep
  have HS2 := Lib.hid hS2.rep
  have HS3 := Lib.hid hS3.rep
  have HF := Lib.hid F3
  have n0 : (selL 4 0 x xs).length = xs.length := sel_none_len X.out hoks
  have n1 : ¬ (selL 4 15 x xs).length > 1 := by omega
  have n1' : ¬ 1 < (selL 4 15 x xs).length := by omega
  have n1'' : ¬ (1 : Int) < (selL 4 15 x xs).length := by omega
  clear hO hS0 hS1 hS2 hS3 F3
  go_wp2
  have HRow := Lib.hid hrow
  clear hrow
  go_loopw [14, 15, 16, 17] (fun a b c i wr => ∃ k : Nat, k ≤ xs.length ∧ i = .int .i64 k ∧ a = .int .i64 ((selK 4 m x xs k).length : Nat) ∧ b = .int .i64 ((selK 4 (m ||| n) x xs k).length : Nat) ∧ c = .int .i64 ((selK 4 15 x xs k).length : Nat) ∧ Hid (Fut w9 wr)) (fun _ _ _ i _ => xs.length - (intOf i).toNat)
  case atStart => exact ⟨0, Nat.zero_le _, rfl, rfl, rfl, rfl, Lib.hid (Fut.refl _)⟩
  case round =>
    obtain ⟨k, hk, rfl, rfl, rfl, rfl, hG⟩ := hrel
    by_cases hlt : k < xs.length
    · have hltI : (k : Int) < xs.length := by omega
      have e1 : (0 : Int) ≤ k ∧ (k : Int) < xs.length := by omega
      obtain ⟨gb, off, rfl, hrk⟩ := rows_at (HO.out.fut RR.stays hG.out).rep hlt
      have hx0 := HRow.out.fut hG.out
      have hyo := hrk.1
      have hgd : xs.getD k zeroRow = xs[k] := by simp [List.getD, hlt]
      generalize xs[k] = y at hrk hyo hgd
      obtain ⟨wq, hwq⟩ : ∃ x, x = wr := ⟨_, rfl⟩
      subst hwq
      go_wp2
      go_loopw [18, 19, 20, 21] (fun f g h j wr => ∃ q : Nat, q ≤ 4 ∧ j = .int .i64 q ∧ f = .bool (fitB m y x q) ∧ g = .bool (fitB (m ||| n) y x q) ∧ h = .bool (fitB 15 y x q) ∧ Hid (Fut wq wr)) (fun _ _ _ j _ => 4 - (intOf j).toNat)
      case atStart => exact ⟨0, by omega, rfl, rfl, rfl, rfl, Lib.hid (Fut.refl _)⟩
      case round =>
        obtain ⟨q, hq, rfl, rfl, rfl, rfl, hH⟩ := hrel
        by_cases hq4 : q < 4
        · have hq4I : (q : Int) < 4 := by omega
          have e2 : (0 : Int) ≤ q ∧ (q : Int) < 24 := by omega
          have ck : wr.cell? ⟨gb, off + k * 24 + q, none⟩ = some (.int .i32 (y.getD q 0)) := (hrk.fut hH.out).2 q _ (cells_getD hyo (by omega))
          have cx : wr.cell? ⟨bx, q, none⟩ = some (.int .i32 (x.getD q 0)) := by
            have := (hx0.fut hH.out).2 q _ (cells_getD X.out (by omega))
            rwa [Nat.zero_add] at this
          go_wp2_with fail
          refine wp_graph 11 [.d, .d, .d, .d, .d, .d, .d, .d, .d, .d, .d] (by kernel_rfl) (by kernel_rfl) (by kernel_rfl) ?_
          simp only [List.take_succ_cons, List.take_zero, List.drop_succ_cons, List.drop_zero, Exs]
          iterate 11 apply Exists.intro
          apply Run.valG (wanted_none rfl _)
          · intro w1 h1 hk
            have q1 := h1.cell ck; have q2 := h1.cell cx
            have hcw := fun b o => Below.cell (p := ⟨b, o, none⟩) h1
            go_simp; rfl
          simp only [Act.put, List.setIfInBounds_toArray, List.set_cons_succ, List.set_cons_zero, List.nil_append, List.cons_append]
          apply Run.valG (wanted_none rfl _)
          · intro w1 h1 hk
            have q1 := h1.cell ck; have q2 := h1.cell cx
            have hcw := fun b o => Below.cell (p := ⟨b, o, none⟩) h1
            go_simp; rfl
          simp only [Act.put, List.setIfInBounds_toArray, List.set_cons_succ, List.set_cons_zero, List.nil_append, List.cons_append]
          apply Run.valG (wanted_none rfl _)
          · intro w1 h1 hk
            have q1 := h1.cell ck; have q2 := h1.cell cx
            have hcw := fun b o => Below.cell (p := ⟨b, o, none⟩) h1
            go_simp; rfl
          simp only [Act.put, List.setIfInBounds_toArray, List.set_cons_succ, List.set_cons_zero, List.nil_append, List.cons_append]
          apply Run.valG (wanted_none rfl _)
          · intro w1 h1 hk
            have q1 := h1.cell ck; have q2 := h1.cell cx
            have hcw := fun b o => Below.cell (p := ⟨b, o, none⟩) h1
            go_simp; rfl
          simp only [Act.put, List.setIfInBounds_toArray, List.set_cons_succ, List.set_cons_zero, List.nil_append, List.cons_append]
          apply Run.valG (wanted_none rfl _)
          · intro w1 h1 hk
            have q1 := h1.cell ck; have q2 := h1.cell cx
            have hcw := fun b o => Below.cell (p := ⟨b, o, none⟩) h1
            go_simp; rfl
          simp only [Act.put, List.setIfInBounds_toArray, List.set_cons_succ, List.set_cons_zero, List.nil_append, List.cons_append]
          apply Run.valG (wanted_none rfl _)
          · intro w1 h1 hk
            have q1 := h1.cell ck; have q2 := h1.cell cx
            have hcw := fun b o => Below.cell (p := ⟨b, o, none⟩) h1
            go_simp; rfl
          simp only [Act.put, List.setIfInBounds_toArray, List.set_cons_succ, List.set_cons_zero, List.nil_append, List.cons_append]
          apply Run.valG (wanted_none rfl _)
          · intro w1 h1 hk
            have q1 := h1.cell ck; have q2 := h1.cell cx
            have hcw := fun b o => Below.cell (p := ⟨b, o, none⟩) h1
            go_simp; rfl
          simp only [Act.put, List.setIfInBounds_toArray, List.set_cons_succ, List.set_cons_zero, List.nil_append, List.cons_append]
          apply Run.valG (wanted_none rfl _)
          · intro w1 h1 hk
            have q1 := h1.cell ck; have q2 := h1.cell cx
            have hcw := fun b o => Below.cell (p := ⟨b, o, none⟩) h1
            go_simp; rfl
          simp only [Act.put, List.setIfInBounds_toArray, List.set_cons_succ, List.set_cons_zero, List.nil_append, List.cons_append]
          apply Run.valG (wanted_none rfl _)
          · intro w1 h1 hk
            have q1 := h1.cell ck; have q2 := h1.cell cx
            have hcw := fun b o => Below.cell (p := ⟨b, o, none⟩) h1
            go_simp; rfl
          simp only [Act.put, List.setIfInBounds_toArray, List.set_cons_succ, List.set_cons_zero, List.nil_append, List.cons_append]
          apply Run.valG (wanted_none rfl _)
          · intro w1 h1 hk
            have q1 := h1.cell ck; have q2 := h1.cell cx
            have hcw := fun b o => Below.cell (p := ⟨b, o, none⟩) h1
            go_simp; rfl
          simp only [Act.put, List.setIfInBounds_toArray, List.set_cons_succ, List.set_cons_zero, List.nil_append, List.cons_append]
          apply Run.valG (wanted_none rfl _)
          · intro w1 h1 hk
            have q1 := h1.cell ck; have q2 := h1.cell cx
            have hcw := fun b o => Below.cell (p := ⟨b, o, none⟩) h1
            go_simp; rfl
          simp only [Act.put, List.setIfInBounds_toArray, List.set_cons_succ, List.set_cons_zero, List.nil_append, List.cons_append]
          apply Run.done
          intro w7 h7 hk
          clear hk
          have hH7 := Lib.hid (hH.out.trans ((Fut.drew _).trans h7))
          have st1 := fitB_step m y x q
          have st2 := fitB_step (m ||| n) y x q
          have st3 := fitB_step 15 y x q
          rw [bit15 hq4] at st3
          have hor := or_u32 hm hn
          have z1 := shr_is (m := m) (k := q) hm
          have z2 := shr_is (m := m ||| n) (k := q) hmn
          clear ck cx h7
          generalize fitB m y x q = f0 at st1 ⊢
          generalize fitB (m ||| n) y x q = g0 at st2 ⊢
          generalize fitB 15 y x q = h0 at st3 ⊢
          generalize (y[q]?.getD 0 == x[q]?.getD 0) = s0 at st1 st2 st3 ⊢
          generalize m.testBit q = t1 at st1 z1
          generalize (m ||| n).testBit q = t2 at st2 z2
          cases s0 with
          | true =>
            cases f0 <;> cases g0 <;> cases h0 <;> (
              go_wp2
              go_roundw
              case rel => exact ⟨q + 1, by omega, by go_num, by rw [st1]; rfl, by rw [st2]; rfl, by rw [st3]; rfl, hH7⟩
              case measure => simp [intOf] <;> omega)
          | false =>
            cases f0 <;> cases g0 <;> cases h0 <;> cases t1 <;> cases t2 <;> (
              go_wp2
              go_roundw
              case rel => exact ⟨q + 1, by omega, by go_num, by rw [st1]; rfl, by rw [st2]; rfl, by rw [st3]; rfl, hH7⟩
              case measure => simp [intOf] <;> omega)
        · obtain rfl : q = 4 := by omega
          have B1 := pick_at (HS2.out.fut RI.stays (hG.out.trans hH.out)) hlt hgd hyo X.out
          have B2 := pick_at (HS3.out.fut RI.stays (hG.out.trans hH.out)) hlt hgd hyo X.out
          have B3 := pick_at (HS1.out.fut RI.stays (hG.out.trans hH.out)) hlt hgd hyo X.out
          obtain ⟨b0, o0, rfl, cell0⟩ := int_at (HS0.out.fut RI.stays (hG.out.trans hH.out)) (sel_none_at X.out hoks hlt)
          have hH7 := Lib.hid (hG.out.trans hH.out)
          rcases B1 with ⟨fe1, al1, as1, b1, o1, rfl, cell1⟩ | ⟨fe1, as1⟩ <;> rcases B2 with ⟨fe2, al2, as2, b2, o2, rfl, cell2⟩ | ⟨fe2, as2⟩ <;> rcases B3 with ⟨fe3, al3, as3, b3, o3, rfl, cell3⟩ | ⟨fe3, as3⟩ <;> (
            rw [fe1, fe2, fe3]
            have l1 := selK_len 4 m x xs k
            have l2 := selK_len 4 (m ||| n) x xs k
            have l3 := selK_len 4 15 x xs k
            generalize (selK 4 m x xs k).length = a1 at *
            generalize (selK 4 (m ||| n) x xs k).length = a2 at *
            generalize (selK 4 15 x xs k).length = a3 at *
            try (have e1 : ¬ ((selL 4 m x xs).length : Int) ≤ a1 := by omega)
            try (have e2 : ¬ ((selL 4 (m ||| n) x xs).length : Int) ≤ a2 := by omega)
            try (have e3 : ¬ ((selL 4 15 x xs).length : Int) ≤ a3 := by omega)
            try (have e4 : (0 : Int) ≤ a1 ∧ (a1 : Int) < (selL 4 m x xs).length := by omega)
            try (have e5 : (0 : Int) ≤ a2 ∧ (a2 : Int) < (selL 4 (m ||| n) x xs).length := by omega)
            try (have e6 : (0 : Int) ≤ a3 ∧ (a3 : Int) < (selL 4 15 x xs).length := by omega)
            go_wp2
            go_roundw
            case rel => exact ⟨k + 1, by omega, by go_num, by rw [as1] <;> go_num, by rw [as2] <;> go_num, by rw [as3] <;> go_num, hH7⟩
            case measure => simp [intOf] <;> omega)
    · obtain rfl : k = xs.length := by omega
      rw [show selK 4 m x xs xs.length = selL 4 m x xs from rfl, show selK 4 (m ||| n) x xs xs.length = selL 4 (m ||| n) x xs from rfl, show selK 4 15 x xs xs.length = selL 4 15 x xs from rfl]
      go_wp2
      go_ret
      exact ⟨rfl, HF.out.trans hG.out⟩
end Go.Proofs.Ytcekphjcmippoaa
