/- slices.Values, slices.AppendSeq, slices.Collect of rows. -/
import Derived.Test.YtcekphjcmippoaaRangeIf
import Derived.Test.YtcekphjcmippoaaRelF
namespace Go.Proofs.Ytcekphjcmippoaa
open Go.RowKit Go.WideMaps Go.Shelf
set_option linter.unusedSimpArgs false
set_option linter.unusedVariables false
attribute [local go_sem] Oper.semAt_some

set_option maxHeartbeats 400000 in
set_option maxRecDepth 100000 in
theorem values_any (v : Value) (w : World) (hv : ∃ A n cap, v = .slice A n cap) :
    Calls Try.prog 38 #[v] w fun e w' => ∃ b, e = .returned (.func (.func 60) #[] #[.pointer (some ⟨b, 0, none⟩)]) ∧ w'.cell? ⟨b, 0, none⟩ = some v ∧ Fut w w' := by
  have f1 := Fut.alloc w (.cells #[v] 25)
  have c1 := cell_at (heap_alloc_new w (.cells #[v] 25)) 0 _ rfl
  obtain ⟨A, n, cap, rfl⟩ := hv
  go_enter Try.func38, Try.ntmps38
  go_wp2
  go_ret
  exact ⟨_, rfl, c1, f1⟩
set_option maxHeartbeats 1600000 in
set_option maxRecDepth 100000 in
theorem values_iter {w : World} {A : Option Addr} {cap M : Nat} {xs : List Rw} (hM : M ≤ 9223372036854775807) (b : Nat) (h : SlRep 24 M RR w (.slice A xs.length cap) xs) (c : w.cell? ⟨b, 0, none⟩ = some (.slice A xs.length cap)) :
    IterIf (fun W => SlRep 24 M RR W (.slice A xs.length cap) xs) Try.prog 60 #[.pointer (some ⟨b, 0, none⟩)] xs.length (fun k => #[Rw.val (xs.getD k zeroRow)]) w := by
  intro l J Jx hJD h0 hst hY
  have HJD := Lib.hid hJD
  have HST := Lib.hid hst
  have HY := Lib.hid hY
  have HJ0 := Lib.hid (h0 w (Fut.refl w))
  have hll := h.len
  obtain ⟨A1, cap1, hv1, hcl, hcm⟩ := h.form
  injection hv1 with hA1 _ hv1
  subst hA1
  subst hv1
  clear hJD h0 hst hY h
  refine (callsIn_wide (n := 3)).1 ?_
  refine callsIn_of_wp Try.func60 rfl trivial ?_ rfl
  simp only [Try.ntmps60, List.size_toArray, List.length_cons, List.length_nil, Nat.reduceAdd, Nat.reduceSub, Array.replicate_succ, Array.replicate_zero, List.push_toArray, List.append_toArray, List.nil_append, List.cons_append]
  gi_wp2
  gi_loopw [7] (fun i wr => ∃ k : Nat, k ≤ xs.length ∧ i = .int .i64 k ∧ Hid (J w.heap.size k wr) ∧ w.heap.size ≤ wr.heap.size) (fun i _ => xs.length - (intOf i).toNat)
  case atStart => exact ⟨0, Nat.zero_le _, rfl, HJ0, Nat.le_refl _⟩
  case round =>
    obtain ⟨k, hk, rfl, hJ, hsz⟩ := hrel
    by_cases hlt : k < xs.length
    · obtain ⟨gu, offu, rfl, hrk⟩ := rows_at (HJD.out _ _ _ hJ.out) hlt
      have hyk : xs.getD k zeroRow = xs[k] := by simp [List.getD, hlt]
      generalize xs[k] = y at hrk hyk
      have hy0 := hrk.1
      have hr6 := RowAt.new wr 32 hy0
      obtain ⟨fn, tmps, assign, body, hy, hRd⟩ := HY.out w.heap.size k (wr.alloc (.cells (Rw.cells y).toArray 32)) (Nat.le_refl _) (by simp; omega) hlt (HST.out _ _ _ _ (Fut.alloc _ _) hJ.out)
      rw [hyk] at hy
      have e1 : (0 : Int) ≤ k ∧ (k : Int) < xs.length := by omega
      gi_wp2_with (first | (refine wpListIn_load_R wide_fn rowTy (wanted_none rfl _) _ rfl rfl hrk ?_) | (refine wpListIn_load_R wide_fn rowTy (wanted_none rfl _) _ rfl rfl hr6 ?_) | (refine wpListIn_store_new wide_fn rowTy (wanted_none rfl _) _ _ rfl rfl rfl rfl hy0 ?_))
      refine hRd.mono ?_
      rintro e w4 (⟨rfl, hJ4, hm4⟩ | ⟨rfl, hJx4⟩)
      · have hJ4' := Lib.hid hJ4
        have hm41 := hm4.1
        have hs4 : (wr.alloc (.cells (Rw.cells y).toArray 32)).heap.size = wr.heap.size + 1 := by simp
        clear hJ4 hm4
        gi_wp2
        go_roundw
        case rel => exact ⟨k + 1, by omega, by go_num, hJ4', by omega⟩
        case measure => simp [intOf] <;> omega
      · gi_wp2
        refine bodyPost_ret (results_none rfl _ _ _) rfl ?_
        exact ⟨⟨_, rfl⟩, .inr ⟨_, hJx4⟩⟩
    · obtain rfl : k = xs.length := by omega
      gi_wp2
      go_end0
      exact ⟨⟨_, rfl⟩, .inl ⟨_, hJ.out⟩⟩
theorem wpListIn_append_R {F : Fence} {n : Nat} {P : Program} {ops : Array Oper} {rest : List Oper} {Q : Exit → Act → World → Prop} {o : Oper} {a : Act} {t e : TypeId} {B : Nat} {w : World} {v u : Value} {xs ys : List Rw} {M : Nat} (hF : ∀ f, F.fn f) (hgd : Region.wanted o (yielded ops a.tmps) = true) (s x : Operand)
    (ho : o.op = .call { callee := .builtin .append, args := #[s, x], argTypes := #[t, t] }) (ht : P.underlying t = some (.slice e))
    (hinfo : (P.info? e).map (fun i => (i.zero, i.size, i.bytes)) = some (some (Rw.val zeroRow), 24, 96))
    (hs : a.eval s = v) (hx : a.eval x = u) (hown : OwnL 24 B e RR w v xs) (hu : SlRep 24 M RR w u ys) (hlen : xs.length + ys.length ≤ 1407374883512) (hbase : B ≤ w.heap.size)
    (h : ∀ v' w', OwnL 24 B e RR w' v' (xs ++ ys) → w.grownBy w' v.ownBlock → (v'.ownBlock = v.ownBlock ∨ v'.ownBlock = some w.heap.size) → wpListIn F n P ops Q rest (a.put o.dst v') w') : wpListIn F n P ops Q (o :: rest) a w := by
  obtain ⟨v', w', hr, h2, h3, h4⟩ := exec_append_R s x ho ht hinfo hs hx hown hu hlen hbase
  exact wpListIn_of_run hF (fun c h => by rw [ho] at h; cases h) hgd hr (h v' w' h2 h3 h4)
set_option maxHeartbeats 1600000 in
set_option maxRecDepth 100000 in
theorem appendSeq_any {D : World → Prop} {w : World} {lb : Array Value} {xs : List Rw} (hl : xs.length ≤ 1407374883512) (hok : ∀ x ∈ xs, Rw.ok x)
    (hit : ∀ W, Fut w W → IterIf D Try.prog 60 lb xs.length (fun k => #[Rw.val (xs.getD k zeroRow)]) W) (hD : ∀ W, Fut w W → D W) :
    Calls Try.prog 68 #[.slice none 0 0, .func (.func 60) #[] lb] w fun e w' => ∃ v, e = .returned v ∧ OwnL 24 w.heap.size 32 RR w' v xs ∧ Fut w w' := by
  have HIt := Lib.hid hit
  have HD := Lib.hid hD
  have HOk := Lib.hid hok
  clear hit hD hok
  refine (callsIn_wide (n := 3)).1 ?_
  refine callsIn_of_wp_marks Try.func68 rfl trivial ?_ rfl
  refine wpIn_wide.2 ?_
  simp only [Try.ntmps68, List.size_toArray, List.length_cons, List.length_nil, Nat.reduceAdd, Nat.reduceSub, Array.replicate_succ, Array.replicate_zero, List.push_toArray, List.append_toArray, List.nil_append, List.cons_append]
  go_wp2_with fail
  have f1 := Fut.alloc w (.cells #[Value.slice none 0 0] 25)
  have hO := heap_alloc_new w (.cells #[Value.slice none 0 0] 25)
  obtain ⟨wl, hW⟩ : ∃ W, w.alloc (.cells #[Value.slice none 0 0] 25) = W := ⟨_, rfl⟩
  have hs1 : wl.heap.size = w.heap.size + 1 := by rw [← hW]; simp
  rw [hW] at f1 hO ⊢
  clear hW
  have FL := Lib.hid f1
  have HI0 := Lib.hid (show ∀ k (hk : k < xs.length), xs.getD k zeroRow = xs[k] from fun k hk => by simp [List.getD, hk])
  clear f1
  refine wp_range_if (D := D) (N := xs.length) (args := fun k => #[Rw.val (xs.getD k zeroRow)]) rfl (enters_of Try.func60 (by kernel_rfl) rfl) (fun W hf => HIt.out W (FL.out.trans hf)) (fun k hk => rfl)
    (fun s k W => ∃ ov, OwnL 24 w.heap.size 32 RR W ov (xs.take k) ∧ (∀ j, ov.ownBlock = some j → s ≤ j) ∧ W.heap[w.heap.size]? = some (.cells #[ov] 25 (0, 0)) ∧ Only (fun j => j = w.heap.size) wl W)
    (fun _ _ _ => False) ?hD ?hIf ?hI ?hIx ?h0 ?hbody ?hdone ?hstop
  case hD => rintro s k W ⟨ov, h1, h2, h3, h4⟩; exact HD.out W (((Only.fut FL.out).trans (h4.mono (S' := fun j => w.heap.size ≤ j) fun j _ hj => Nat.le_of_eq hj.symm)).toFut fun j hj => hj)
  case hIf => rintro s k W W' hf ⟨ov, h1, h2, h3, h4⟩; exact ⟨ov, h1.fut RR.stays hf, h2, hf.block h3, h4.trans (Only.fut hf)⟩
  case hI =>
    rintro s k W l o hl1 hl2 hs ⟨ov, h1, h2, h3, h4⟩
    have OP : Only (fun j => j = l) W (W.putObj l o) := Only.put _ _ rfl
    exact ⟨ov, h1.onlyR OP (fun j hj e => by have := h2 j hj; omega), h2, OP.keeps h3 (by show ¬ w.heap.size = l; omega), h4.then OP fun j hj hlt => by omega⟩
  case hIx => exact fun _ _ _ _ _ _ _ _ h => h
  case h0 =>
    intro w4 hf hs
    exact ⟨_, OwnL.nil, fun j hj => (by cases hj), hf.block hO, Only.fut hf⟩
  case hbody =>
    rintro l s k W hl1 hl2 hs hsW hk ⟨ov, h1, h2, h3, h4⟩ hrec
    simp only [HI0.out k hk]
    have hyo := HOk.out _ (List.getElem_mem hk)
    have htk : xs.take (k + 1) = xs.take k ++ [xs[k]] := List.take_succ_eq_append_getElem hk
    generalize xs[k] = y at hyo htk
    obtain ⟨rr, hrr⟩ := hrec
    gi_wp2_with (first | (refine wpListIn_store_new (round_fn l) rowTy (wanted_none rfl _) _ _ rfl rfl rfl rfl hyo ?_))
    refine ⟨Mid.of_fut (Fut.alloc _ _) hsW, fun o => ?_⟩
    have OP : Only (fun j => j = l) W ((W.alloc (.cells (Rw.cells y).toArray 32)).putObj l o) := (Only.fut (Fut.alloc _ _)).trans (Only.put _ _ rfl)
    have hr5 : RowAt ((W.alloc (.cells (Rw.cells y).toArray 32)).putObj l o) W.heap.size 0 y := (RowAt.new W 32 hyo).only (Only.put (S := fun j => j = l) l o rfl) (by omega)
    have hsP : W.heap.size < ((W.alloc (.cells (Rw.cells y).toArray 32)).putObj l o).heap.size := by rw [World.putObj_size]; simp
    obtain ⟨Wp, hWp⟩ : ∃ x, (W.alloc (.cells (Rw.cells y).toArray 32)).putObj l o = x := ⟨_, rfl⟩
    rw [hWp] at OP hr5 hsP ⊢
    clear hWp hrr
    replace h1 : OwnL 24 w.heap.size 32 RR Wp ov (xs.take k) := h1.onlyR OP (fun j hj e => by have := h2 j hj; omega)
    replace h3 := OP.keeps h3 (by show ¬ w.heap.size = l; omega)
    replace h4 := h4.then OP fun j hj hlt => by omega
    have c2 := cell_at h3 0 _ rfl
    have hOa := h1.fut RR.stays (Fut.alloc Wp (.cells (Rw.cells y).toArray 32))
    have hRo := rowOne Wp 32 hyo
    have hLa : (xs.take k).length + [y].length ≤ 1407374883512 := by simp; omega
    have hBa : w.heap.size ≤ (Wp.alloc (.cells (Rw.cells y).toArray 32)).heap.size := by simp; omega
    have p3a := (Fut.alloc Wp (.cells (Rw.cells y).toArray 32)).block h3
    have hne : ∀ j, ov.ownBlock = some j → j ≠ w.heap.size := fun j hj e => by have := h2 j hj; omega
    gi_wp2_with (first | (refine wpListIn_load_R (round_fn l) rowTy (wanted_none rfl _) _ rfl rfl hr5 ?_) | (refine wpListIn_of_run (round_fn l) (fun c h => by cases h) (wanted_none rfl _) (exec_one_R rowTy zeroR Try.underlying25 _ rfl rfl hyo) ?_) | (refine wpListIn_append_R (round_fn l) (wanted_none rfl _) _ _ rfl Try.underlying25 infoR rfl rfl hOa hRo hLa hBa ?_; intro v8 w8 hO8 hG8 hB8; obtain ⟨A8, cap8, hv8, hc8, _⟩ := hO8.rep.form; have O8 : Only (fun j => ov.ownBlock = some j) _ w8 := Only.grown hG8 (fun j hj => hj); have b8 := O8.keeps p3a (fun h => hne _ h rfl); have q8 := cell_at b8 0 _ rfl; have z8 := free_at b8 0; subst hv8))
    have hel : (xs.take k ++ [y]).length = min k xs.length + 1 := by simp
    rw [hel] at hB8 hO8
    have hs8 := O8.size
    have hOl : w.heap.size < Wp.heap.size := (Array.getElem?_eq_some_iff.1 h3).1
    have hB9 : ∀ j, (Value.slice A8 (min k xs.length + 1) cap8).ownBlock = some j → ov.ownBlock = some j ∨ Wp.heap.size ≤ j := fun j hj => by
      rcases hB8 with h | h
      · exact .inl ((show ov.ownBlock = _ from h.symm).trans hj)
      · have e := (show some _ = _ from h.symm).trans hj
        rw [World.size_alloc] at e
        have := Option.some.inj e
        exact .inr (by omega)
    have hne9 : ∀ j, (Value.slice A8 (min k xs.length + 1) cap8).ownBlock = some j → ¬ j = w.heap.size := fun j hj e => by
      rcases hB9 j hj with h | h
      · exact hne j h e
      · omega
    have OS : Only (fun j => j = w.heap.size) w8 (w8.setCell ⟨w.heap.size, 0, none⟩ (Value.slice A8 (min k xs.length + 1) cap8)) := Only.set _ _ rfl
    have OA := (Only.fut (Fut.alloc Wp (.cells (Rw.cells y).toArray 32))).trans O8
    have OT : Only (fun j => s ≤ j ∨ j = w.heap.size) Wp (w8.setCell ⟨w.heap.size, 0, none⟩ (Value.slice A8 (min k xs.length + 1) cap8)) := (OA.mono (S' := fun j => s ≤ j ∨ j = w.heap.size) fun j _ hj => .inl (h2 j hj)).trans (OS.mono (S' := fun j => s ≤ j ∨ j = w.heap.size) fun j _ hj => .inr hj)
    have hst := OT.size
    refine ⟨⟨hst, fun j hj1 hj2 => ?_⟩, _, hO8.onlyR OS hne9, fun j hj => ?_, ?_, h4.then OT fun j hj hlt => ?_⟩
    · exact OT.block j (by omega) (by omega)
    · rcases hB9 j hj with h | h
      · exact h2 j h
      · omega
    · exact set_blk b8
    · rcases hj with h | h
      · omega
      · exact h
  case hdone =>
    rintro s W hs ⟨ov, h1, h2, h3, h4⟩ hK
    have c9 := cell_at h3 0 _ rfl
    rw [List.take_length] at h1
    go_wp2
    refine ⟨by simp, .inl ⟨_, _, rfl, run_takeDeferred hK, ?_⟩⟩
    have OP : Only (fun j => j = wl.heap.size) W (W.putObj wl.heap.size (.deferred none)) := Only.put _ _ rfl
    exact ⟨_, results_tmp rfl _ _ _, ov, rfl, h1.onlyR OP (fun j hj e => by have := h2 j hj; omega), (((Only.fut FL.out).trans (h4.mono (S' := fun j => w.heap.size ≤ j) fun j _ hj => by omega)).trans (OP.mono (S' := fun j => w.heap.size ≤ j) fun j _ hj => by omega)).toFut fun j hj => hj⟩
  case hstop => exact fun _ _ _ _ h _ => h.elim
end Go.Proofs.Ytcekphjcmippoaa
