/- Relation.Clone. -/
import Derived.Test.YtcekphjcmippoaaRelI
import Derived.Test.YtcekphjcmippoaaGraphIn
import Derived.Shelf.Abstract
namespace Go.Proofs.Ytcekphjcmippoaa
open Go.RowKit Go.WideMaps Go.Shelf
set_option linter.unusedSimpArgs false
set_option linter.unusedVariables false
attribute [local go_sem] Oper.semAt_some

set_option maxHeartbeats 1600000 in
set_option maxRecDepth 100000 in
theorem clone_any {B : Nat} {w : World} {b pb mb : Nat} {lv : Value} {ar gone : Nat} {xs : List Rw} (h : RelI B w b pb mb lv ar gone xs) (hl : xs.length < 1407374883512) :
    Calls Try.prog 10 #[.pointer (some ⟨b, 0, none⟩)] w fun e w' => ∃ b' pb' mb' lv', e = .returned (.pointer (some ⟨b', 0, none⟩)) ∧ RelI w.heap.size w' b' pb' mb' lv' ar 0 xs ∧ Fut w w' := by
  have H := Lib.hid h
  have c0 := cell_at h.blk 0 _ rfl
  clear h
  refine (callsIn_wide (n := 3)).1 ?_
  refine callsIn_of_wp_marks Try.func10 rfl trivial ?_ rfl
  refine wpIn_wide.2 ?_
  simp only [Try.ntmps10, List.size_toArray, List.length_cons, List.length_nil, Nat.reduceAdd, Nat.reduceSub, Array.replicate_succ, Array.replicate_zero, List.push_toArray, List.append_toArray, List.nil_append, List.cons_append]
  go_wp2_with fail
  refine (there_any H.out).mono ?_
  rintro e w1 ⟨rfl, hw1⟩
  have hw2 := hw1.symm
  subst hw2
  go_wp2_with fail
  refine (new_any ar H.out.wide w).mono ?_
  rintro e w1 ⟨b', pb', mb', rfl, hR1, f1⟩
  have HR1 := Lib.hid hR1
  have F1 := Lib.hid f1
  clear hR1 f1
  go_wp2_with fail
  have fa := Fut.alloc w1 (.cells #[Value.pointer (some ⟨b', 0, none⟩)] 24)
  have cc := cell_at (heap_alloc_new w1 (.cells #[Value.pointer (some ⟨b', 0, none⟩)] 24)) 0 _ rfl
  obtain ⟨w2, hw2⟩ : ∃ W, w1.alloc (.cells #[Value.pointer (some ⟨b', 0, none⟩)] 24) = W := ⟨_, rfl⟩
  rw [hw2] at fa cc ⊢
  clear hw2
  refine (len_any (H.out.fut (F1.out.trans fa))).mono ?_
  rintro e w3 ⟨rfl, hw3⟩
  have hw3' := hw3.symm
  subst hw3'
  go_wp2_with fail
  refine (range_any _ _ _ w2).mono ?_
  rintro e wl ⟨lb, rfl, hsq, f2⟩
  have HS := Lib.hid hsq
  have FL := Lib.hid ((F1.out.trans fa).trans f2)
  have HRl := Lib.hid (HR1.out.fut (fa.trans f2))
  have cl := f2.cell cc
  have hcb : w1.heap.size < wl.heap.size := lt_of_cell cl
  have hcw : w.heap.size ≤ w1.heap.size := F1.out.size
  clear hsq fa f2 cc c0
  have hN : hiS xs (xs.length : Int) - loS 0 = xs.length := by simp [hiS, loS]
  have hI0 : ∀ k (hk : k < xs.length), spanArgs xs 0 k = #[.int .i64 (k : Int), Rw.val xs[k]] := fun k hk => by
    simp [spanArgs, loS, List.getD, hk]
  have HI0 := Lib.hid hI0
  clear hI0
  go_wp2_with fail
  refine wp_range (N := hiS xs (xs.length : Int) - loS 0) (args := spanArgs xs 0) rfl (enters_of Try.func35 (by kernel_rfl) rfl) (fun W hf => range_iter (H.out.fut (FL.out.trans hf)) (by omega) 0 _ lb (HS.out.fut hf)) (fun k hk => rfl)
    (fun s k W => (∃ lv, RelI w.heap.size W b' pb' mb' lv ar 0 (xs.take k) ∧ ∀ j, lv.ownBlock = some j → j < w1.heap.size ∨ s ≤ j) ∧ W.cell? ⟨w1.heap.size, 0, none⟩ = some (.pointer (some ⟨b', 0, none⟩)) ∧ Fut w W)
    (fun _ _ _ => False) ?hIf ?hI ?hIx ?h0 ?hbody ?hdone ?hstop
  case hIf => rintro s k W W' hf ⟨⟨lv, h1, h2⟩, h3, h4⟩; exact ⟨⟨lv, h1.fut hf, h2⟩, hf.cell h3, h4.trans hf⟩
  case hI =>
    rintro s k W l o hl1 hl2 hs ⟨⟨lv, h1, h2⟩, h3, h4⟩
    have OP : Only (fun j => j = l) W (W.putObj l o) := Only.put _ _ rfl
    have hlt := HR1.out.lt
    refine ⟨⟨lv, h1.only OP (fun j hf e => ?_), h2⟩, OP.cell h3 (by show w1.heap.size ≠ l; omega), ((Only.fut h4).trans (OP.mono (S' := fun j => w.heap.size ≤ j) fun j _ hj => by omega)).toFut fun j hj => hj⟩
    subst e
    rcases hf with h | h | h | h
    · have := hlt b' (.inl rfl); omega
    · have := hlt pb' (.inr (.inl rfl)); omega
    · have := hlt mb' (.inr (.inr (.inl rfl))); omega
    · have := h2 _ h; omega
  case hIx => exact fun _ _ _ _ _ _ _ _ h => h
  case h0 =>
    intro w4 hf hs
    exact ⟨⟨_, by rw [List.take_zero]; exact HRl.out.fut hf, fun j hj => by cases hj⟩, hf.cell cl, FL.out.trans hf⟩
  case hbody =>
    rintro l s k W hl1 hl2 hs hsW hk ⟨⟨lv, h1, h2⟩, h3, h4⟩ hrec
    have hkx : k < xs.length := by omega
    rw [HI0.out k hkx]
    have hyo := rows_ok H.out.pl.list.rep _ (List.getElem_mem hkx)
    have htk : xs.take (k + 1) = xs.take k ++ [xs[k]] := List.take_succ_eq_append_getElem hkx
    have hnm : xs[k] ∉ xs.take k := fun hm => by
      obtain ⟨j, hj, he⟩ := List.getElem_of_mem hm
      rw [List.length_take] at hj
      rw [List.getElem_take] at he
      have := (List.getElem_inj H.out.pl.nodup).1 he
      omega
    generalize xs[k] = y at hyo htk hnm
    obtain ⟨rr, hrr⟩ := hrec
    gi_wp2_with (first | (refine wpListIn_store_new (round_fn l) rowTy (wanted_none rfl _) _ _ rfl rfl rfl rfl hyo ?_))
    refine ⟨Mid.of_fut (Fut.alloc _ _) hsW, fun o => ?_⟩
    have OP : Only (fun j => j = l) W ((W.alloc (.cells (Rw.cells y).toArray 32)).putObj l o) := (Only.fut (Fut.alloc _ _)).trans (Only.put _ _ rfl)
    have hr5 : RowAt ((W.alloc (.cells (Rw.cells y).toArray 32)).putObj l o) W.heap.size 0 y := (RowAt.new W 32 hyo).only (Only.put (S := fun j => j = l) l o rfl) (by omega)
    have hsP : W.heap.size < ((W.alloc (.cells (Rw.cells y).toArray 32)).putObj l o).heap.size := by rw [World.putObj_size]; simp
    obtain ⟨Wp, hWp⟩ : ∃ x, (W.alloc (.cells (Rw.cells y).toArray 32)).putObj l o = x := ⟨_, rfl⟩
    rw [hWp] at OP hr5 hsP ⊢
    clear hWp
    have hlt := HR1.out.lt
    have hfo : ∀ j, foot b' pb' mb' lv j → j < w1.heap.size ∨ s ≤ j := fun j hf => by
      rcases hf with h | h | h | h
      · have := hlt b' (.inl rfl); omega
      · have := hlt pb' (.inr (.inl rfl)); omega
      · have := hlt mb' (.inr (.inr (.inl rfl))); omega
      · exact h2 _ h
    have hRp := h1.only OP (fun j hf e => by subst e; have := hfo _ hf; omega)
    have hcp := OP.cell h3 (by show w1.heap.size ≠ l; omega)
    have hFp := ((Only.fut h4).trans (OP.mono (S' := fun j => w.heap.size ≤ j) fun j _ hj => by omega)).toFut fun j hj => hj
    have k2 := cell_at hRp.blk 2 _ rfl
    gi_wp2_with fail
    refine wpIn_graph 5 [.d, .d, .d, .d, .d] (by kernel_rfl) (by kernel_rfl) (by kernel_rfl) (by kernel_rfl) ?_
    simp only [List.take_succ_cons, List.take_zero, List.drop_succ_cons, List.drop_zero, Exs]
    iterate 5 apply Exists.intro
    apply Run.valG (wanted_none rfl _)
    · intro w1 h1 hk
      have q0 := h1.cell hcp; have q1 := h1.cell k2; have hg := (Fut.drew _).trans h1
      have hcw := fun b o => Below.cell (p := ⟨b, o, none⟩) h1
      go_simp; rfl
    simp only [Act.put, List.setIfInBounds_toArray, List.set_cons_succ, List.set_cons_zero, List.nil_append, List.cons_append]
    apply Run.valG (wanted_none rfl _)
    · intro w1 h1 hk
      have q0 := h1.cell hcp; have q1 := h1.cell k2; have hg := (Fut.drew _).trans h1
      have hcw := fun b o => Below.cell (p := ⟨b, o, none⟩) h1
      go_simp; rfl
    simp only [Act.put, List.setIfInBounds_toArray, List.set_cons_succ, List.set_cons_zero, List.nil_append, List.cons_append]
    apply Run.valG (wanted_none rfl _)
    · intro w1 h1 hk
      have q0 := h1.cell hcp; have q1 := h1.cell k2; have hg := (Fut.drew _).trans h1
      have hcw := fun b o => Below.cell (p := ⟨b, o, none⟩) h1
      go_simp; rfl
    simp only [Act.put, List.setIfInBounds_toArray, List.set_cons_succ, List.set_cons_zero, List.nil_append, List.cons_append]
    apply Run.valG (wanted_none rfl _)
    · intro w1 h1 hk
      have q0 := h1.cell hcp; have q1 := h1.cell k2; have hg := (Fut.drew _).trans h1
      have hcw := fun b o => Below.cell (p := ⟨b, o, none⟩) h1
      go_simp; rfl
    simp only [Act.put, List.setIfInBounds_toArray, List.set_cons_succ, List.set_cons_zero, List.nil_append, List.cons_append]
    apply Run.valG (wanted_none rfl _)
    · intro w1 h1 hk
      have q0 := h1.cell hcp; have q1 := h1.cell k2; have hg := (Fut.drew _).trans h1
      have hcw := fun b o => Below.cell (p := ⟨b, o, none⟩) h1
      exact exec_load_R rowTy _ rfl rfl (hr5.fut hg)
    simp only [Act.put, List.setIfInBounds_toArray, List.set_cons_succ, List.set_cons_zero, List.nil_append, List.cons_append]
    apply Run.done
    intro w6 h6 hk
    clear hk
    have F6 := (Fut.drew _).trans h6
    have hR6 := hRp.fut F6
    have hw6 : w.heap.size ≤ w6.heap.size := Nat.le_trans hFp.size F6.size
    have hs6 : s ≤ w6.heap.size := by have := F6.size; omega
    gi_wp2_with fail
    refine ⟨trivial, (CallsIn.inRound l (callsIn_wide.2 (put_any hR6.pl hw6 y hyo (by simp; omega)))).mono ?_⟩
    rintro e w7 ⟨lv7, rfl, hP7, hO7, hV7⟩
    rw [if_neg hnm, ← htk] at hP7
    gi_wp2
    refine ⟨⟨Nat.le_trans F6.size hO7.size, fun j hj1 hj2 => ?_⟩, ⟨lv7, ⟨hO7.keeps hR6.blk (fun h => hR6.sep _ h rfl), hP7, hR6.base, hR6.wide⟩, fun j hj => ?_⟩, hO7.cell (F6.cell hcp) ?_, ((Only.fut (hFp.trans F6)).trans (hO7.mono (S' := fun j => w.heap.size ≤ j) fun j _ hj => hR6.pl.ge j hj)).toFut fun j hj => hj⟩
    · rw [hO7.block j (by omega) (fun h => by have := hfo j (.inr h); omega), Below.block F6 j (by omega)]
    · rcases hV7 j hj with h | h
      · exact hfo j (.inr h)
      · exact .inr (by omega)
    · intro h
      have := hfo w1.heap.size (.inr h)
      omega
  case hdone =>
    rintro s W hs ⟨⟨lv, h1, h2⟩, h3, h4⟩ hK
    rw [hN, List.take_length] at h1
    go_wp2
    refine ⟨by simp, .inl ⟨_, _, rfl, run_takeDeferred hK, ?_⟩⟩
    have OP : Only (fun j => j = wl.heap.size) W (W.putObj wl.heap.size (.deferred none)) := Only.put _ _ rfl
    have hlt := HR1.out.lt
    have hRe := h1.only OP (fun j hf e => by
      subst e
      rcases hf with h | h | h | h
      · have := hlt b' (.inl rfl); omega
      · have := hlt pb' (.inr (.inl rfl)); omega
      · have := hlt mb' (.inr (.inr (.inl rfl))); omega
      · have := h2 _ h; omega)
    have hFe := ((Only.fut h4).trans (OP.mono (S' := fun j => w.heap.size ≤ j) fun j _ hj => by omega)).toFut fun j hj => hj
    exact ⟨_, results_tmp rfl _ _ _, b', pb', mb', lv, rfl, hRe, hFe⟩
  case hstop => exact fun _ _ _ _ h _ => h.elim
end Go.Proofs.Ytcekphjcmippoaa
