/- Range, and its iterator. -/
import Derived.Test.YtcekphjcmippoaaRelK
import Derived.Test.YtcekphjcmippoaaRowIn
import Derived.OwnWalkIn
import Derived.TacticsInMore
import Derived.LoopNIn
import Derived.LoopIn
namespace Go.Proofs.Ytcekphjcmippoaa
open Go.RowKit Go.WideMaps
set_option linter.unusedSimpArgs false
set_option linter.unusedVariables false

theorem OwnL.blkR {B : Nat} {e : TypeId} {w w' : World} {v : Value} {ys : List Rw} (h : OwnL 24 B e RR w v ys) (hb : ∀ j, v.ownBlock = some j → w'.heap[j]? = w.heap[j]?) : OwnL 24 B e RR w' v ys := by
  obtain ⟨css, h1, h2, h3, h4⟩ := h
  refine ⟨css, h1, fun i cs x hi hx => h2 i cs x hi hx, h3, ?_⟩
  rcases h4 with h4 | ⟨g, cap, cur, a1, a2, a3, a4⟩
  · exact .inl h4
  · exact .inr ⟨g, cap, cur, a1, a2, (hb g (by rw [a1]; rfl)).trans a3, a4⟩
/-- What an iterator over a span has captured. -/
def SeqAt (w : World) (lb : Array Value) (p : Value) (from_ to_ : Int) : Prop :=
  ∃ b1 b2 b3, lb = #[.pointer (some ⟨b1, 0, none⟩), .pointer (some ⟨b2, 0, none⟩), .pointer (some ⟨b3, 0, none⟩)] ∧ w.cell? ⟨b1, 0, none⟩ = some p ∧ w.cell? ⟨b2, 0, none⟩ = some (.int .i64 from_) ∧ w.cell? ⟨b3, 0, none⟩ = some (.int .i64 to_)
theorem SeqAt.fut {w w' : World} {lb : Array Value} {p : Value} {f t : Int} (h : SeqAt w lb p f t) (hf : Fut w w') : SeqAt w' lb p f t := by
  obtain ⟨b1, b2, b3, h1, h2, h3, h4⟩ := h
  exact ⟨b1, b2, b3, h1, hf.cell h2, hf.cell h3, hf.cell h4⟩
set_option maxHeartbeats 400000 in
set_option maxRecDepth 100000 in
theorem range_any (p : Option Addr) (f t : Int) (w : World) :
    Calls Try.prog 20 #[.pointer p, .int .i64 f, .int .i64 t] w fun e w' => ∃ lb, e = .returned (.func (.func 35) #[] lb) ∧ SeqAt w' lb (.pointer p) f t ∧ Fut w w' := by
  have f1 := Fut.alloc w (.cells #[Value.pointer p] 24)
  have c1 := cell_at (heap_alloc_new w (.cells #[Value.pointer p] 24)) 0 _ rfl
  have f2 := Fut.alloc (w.alloc (.cells #[Value.pointer p] 24)) (.cells #[Value.int .i64 f] 3)
  have c2 := cell_at (heap_alloc_new (w.alloc (.cells #[Value.pointer p] 24)) (.cells #[Value.int .i64 f] 3)) 0 _ rfl
  have f3 := Fut.alloc ((w.alloc (.cells #[Value.pointer p] 24)).alloc (.cells #[Value.int .i64 f] 3)) (.cells #[Value.int .i64 t] 3)
  have c3 := cell_at (heap_alloc_new ((w.alloc (.cells #[Value.pointer p] 24)).alloc (.cells #[Value.int .i64 f] 3)) (.cells #[Value.int .i64 t] 3)) 0 _ rfl
  rw [World.size_alloc] at c2
  rw [World.size_alloc, World.size_alloc] at c3
  go_enter Try.func20, Try.ntmps20
  go_wp2
  go_ret
  exact ⟨_, rfl, ⟨_, _, _, rfl, f3.cell (f2.cell c1), f3.cell c2, c3⟩, (f1.trans f2).trans f3⟩

def loS (f : Int) : Nat := f.toNat
def hiS (xs : List Rw) (t : Int) : Nat := min t.toNat xs.length
def spanArgs (xs : List Rw) (f : Int) (k : Nat) : Array Value := #[.int .i64 ((loS f : Int) + (k : Int)), Rw.val (xs.getD (loS f + k) zeroRow)]
attribute [local go_sem] Oper.semAt_some
set_option maxHeartbeats 1600000 in
set_option maxRecDepth 100000 in
theorem range_iter {B : Nat} {w : World} {b pb mb : Nat} {lv : Value} {ar gone : Nat} {xs : List Rw} (h : RelI B w b pb mb lv ar gone xs) (hl : xs.length ≤ 1407374883512) (f t : Int) (lb : Array Value) (hs : SeqAt w lb (.pointer (some ⟨b, 0, none⟩)) f t) :
    IterAt Try.prog 35 lb (hiS xs t - loS f) (spanArgs xs f) w := by
  intro l J Jx h0 hst hY
  obtain ⟨b1, b2, b3, rfl, c1, c2, c3⟩ := hs
  have HR := Lib.hid h
  have H0 := Lib.hid h0
  have HST := Lib.hid hst
  have HY := Lib.hid hY
  clear h h0 hst hY
  refine (callsIn_wide (n := 3)).1 ?_
  refine callsIn_of_wp Try.func35 rfl trivial ?_ rfl
  simp only [Try.ntmps35, List.size_toArray, List.length_cons, List.length_nil, Nat.reduceAdd, Nat.reduceSub, Array.replicate_succ, Array.replicate_zero, List.push_toArray, List.append_toArray, List.nil_append, List.cons_append]
  gi_wp2_with fail
  refine ⟨trivial, (callsIn_wide.2 (len_any HR.out)).mono ?_⟩
  rintro e w1 ⟨rfl, hw1⟩
  have hw2 := hw1.symm
  subst hw2
  gi_wp2_with fail
  refine wpIn_wide.2 ?_
  refine wp_graph 7 [.d, .d, .d, .d, .d, .d, .d] (by kernel_rfl) (by kernel_rfl) (by kernel_rfl) ?_
  simp only [List.take_succ_cons, List.take_zero, List.drop_succ_cons, List.drop_zero, Exs]
  iterate 7 apply Exists.intro
  apply Run.valG (wanted_none rfl _)
  · intro w1 h1 hk
    have q2 := h1.cell c2; have q3 := h1.cell c3
    have hcw := fun b o => Below.cell (p := ⟨b, o, none⟩) h1
    go_simp; rfl
  simp only [Act.put, List.setIfInBounds_toArray, List.set_cons_succ, List.set_cons_zero, List.nil_append, List.cons_append]
  apply Run.valG (wanted_none rfl _)
  · intro w1 h1 hk
    have q2 := h1.cell c2; have q3 := h1.cell c3
    have hcw := fun b o => Below.cell (p := ⟨b, o, none⟩) h1
    go_simp; rfl
  simp only [Act.put, List.setIfInBounds_toArray, List.set_cons_succ, List.set_cons_zero, List.nil_append, List.cons_append]
  apply Run.valG (wanted_none rfl _)
  · intro w1 h1 hk
    have q2 := h1.cell c2; have q3 := h1.cell c3
    have hcw := fun b o => Below.cell (p := ⟨b, o, none⟩) h1
    go_simp; rfl
  simp only [Act.put, List.setIfInBounds_toArray, List.set_cons_succ, List.set_cons_zero, List.nil_append, List.cons_append]
  apply Run.valG (wanted_none rfl _)
  · intro w1 h1 hk
    have q2 := h1.cell c2; have q3 := h1.cell c3
    have hcw := fun b o => Below.cell (p := ⟨b, o, none⟩) h1
    go_simp; rfl
  simp only [Act.put, List.setIfInBounds_toArray, List.set_cons_succ, List.set_cons_zero, List.nil_append, List.cons_append]
  apply Run.valG (wanted_none rfl _)
  · intro w1 h1 hk
    have q2 := h1.cell c2; have q3 := h1.cell c3
    have hcw := fun b o => Below.cell (p := ⟨b, o, none⟩) h1
    go_simp; rfl
  simp only [Act.put, List.setIfInBounds_toArray, List.set_cons_succ, List.set_cons_zero, List.nil_append, List.cons_append]
  apply Run.valG (wanted_none rfl _)
  · intro w1 h1 hk
    have q2 := h1.cell c2; have q3 := h1.cell c3
    have hcw := fun b o => Below.cell (p := ⟨b, o, none⟩) h1
    go_simp; rfl
  simp only [Act.put, List.setIfInBounds_toArray, List.set_cons_succ, List.set_cons_zero, List.nil_append, List.cons_append]
  apply Run.valG (wanted_none rfl _)
  · intro w1 h1 hk
    have q2 := h1.cell c2; have q3 := h1.cell c3
    have hcw := fun b o => Below.cell (p := ⟨b, o, none⟩) h1
    go_simp; rfl
  simp only [Act.put, List.setIfInBounds_toArray, List.set_cons_succ, List.set_cons_zero, List.nil_append, List.cons_append]
  apply Run.done
  intro w2 h2 hk
  clear hk
  have F2 := (Fut.drew w).trans h2
  rw [show (if f < 0 then 0 else f) = ((loS f : Nat) : Int) from by unfold loS; split <;> omega]
  by_cases hab : loS f < hiS xs t
  · rw [show (if (xs.length : Int) < t then (xs.length : Int) else t) = ((hiS xs t : Nat) : Int) from by unfold hiS at hab ⊢; split <;> omega]
    have hhi : hiS xs t ≤ xs.length := Nat.min_le_right _ _
    obtain ⟨hi, hhi0⟩ : ∃ hi, hiS xs t = hi := ⟨_, rfl⟩
    obtain ⟨lo, hlo⟩ : ∃ lo, loS f = lo := ⟨_, rfl⟩
    rw [hhi0] at hab hhi ⊢
    rw [hlo] at hab ⊢
    have d1 : ¬ (hi : Int) ≤ lo := by omega
    have d2 : ¬ hi ≤ lo := by omega
    obtain ⟨A, cap, rfl, hcl, hcm⟩ := HR.out.pl.form
    obtain ⟨gb, off, rfl, _⟩ := rows_at HR.out.pl.list.rep (show lo < xs.length by omega)
    have HR2 := Lib.hid (HR.out.fut F2)
    have k1 := F2.cell c1
    have k2 := cell_at HR2.out.blk 2 _ rfl
    have k0 := cell_at HR2.out.pl.blk 0 _ rfl
    have hRep := Lib.hid (HR2.out.pl.list.rep.more (M' := 9223372036854775807) (by unfold maxLen; omega))
    have d3 : (0 : Int) ≤ lo ∧ (lo : Int) ≤ hi ∧ (hi : Int) ≤ cap ∧ (hi : Int) ≤ xs.length := by omega
    have d4 : ¬ cap = lo := by omega
    have hcl2 := Lib.hid (clone_R (.slice (some ⟨gb, off + lo * 24, none⟩) (hi - lo) (cap - lo)) ((xs.drop lo).take (hi - lo)) w2 (by
      have h1 := rws_drop hRep.out (show lo ≤ xs.length by omega)
      rw [show xs.length - lo = (xs.drop lo).length by simp] at h1
      exact rws_take h1 (by simp; omega)) (by simp; omega))
    have hN : hiS xs t - loS f = hi - lo := by rw [hhi0, hlo]
    obtain ⟨ys, hys⟩ : ∃ ys, (xs.drop lo).take (hi - lo) = ys := ⟨_, rfl⟩
    have hyl : ys.length = hi - lo := by rw [← hys]; simp; omega
    have HYK := Lib.hid (show ∀ k (h : k < ys.length), spanArgs xs f k = #[.int .i64 ((lo : Int) + (k : Int)), Rw.val ys[k]] from fun k hk => by
      unfold spanArgs
      rw [hlo]
      congr 3
      subst hys
      rw [List.getElem_take, List.getElem_drop]
      simp [List.getD, show lo + k < xs.length by omega])
    rw [hys] at hcl2
    clear HR c1 c2 c3
    go_wp2_with fail
    gi_wp2_with fail
    refine ⟨trivial, (callsIn_wide.2 hcl2.out).mono ?_⟩
    rintro e w3 ⟨u, rfl, hO3, f3⟩
    obtain ⟨Au, capu, rfl, hcu, hcu'⟩ := hO3.rep.form
    rw [hyl]
    have HO3 := Lib.hid hO3
    have hs3 : w.heap.size ≤ w3.heap.size := Nat.le_trans F2.size f3.size
    have HJ3 := Lib.hid (H0.out w3 (F2.trans f3))
    have HB3 := Lib.hid (show ∀ j, (Value.slice Au ys.length capu).ownBlock = some j → w2.heap.size ≤ j ∧ j < w3.heap.size from hO3.block)
    have hw2 := F2.size
    clear hO3 hcl2 f3 H0 h2 k0 k1 k2 HR2 hRep
    gi_wp2
    gi_loopw [32] (fun i wr => ∃ k : Nat, k ≤ hi - lo ∧ i = .int .i64 k ∧ Hid (J w3.heap.size k wr) ∧ Hid (OwnL 24 w2.heap.size 32 RR wr (.slice Au ys.length capu) ys) ∧ w3.heap.size ≤ wr.heap.size) (fun i _ => hi - lo - (intOf i).toNat)
    case atStart => exact ⟨0, Nat.zero_le _, rfl, HJ3, HO3, Nat.le_refl _⟩
    case round =>
      obtain ⟨k, hk, rfl, hJ, hO, hsz⟩ := hrel
      by_cases hlt : k < hi - lo
      · have hlt' : k < ys.length := by omega
        obtain ⟨gu, offu, rfl, hrk⟩ := rows_at hO.out.rep hlt'
        have hyk := HYK.out k hlt'
        generalize ys[k] = y at hrk hyk
        have hy0 := hrk.1
        have hr6 := RowAt.new wr 32 hy0
        obtain ⟨fn, tmps, assign, body, hy, hRd⟩ := HY.out w3.heap.size k (wr.alloc (.cells (Rw.cells y).toArray 32)) hs3 (by simp; omega) (by rw [hN]; exact hlt) (HST.out _ _ _ _ (Fut.alloc _ _) hJ.out)
        rw [hyk] at hy
        have e1 : (0 : Int) ≤ k ∧ (k : Int) < (hi - lo : Nat) := by omega
        have e2 : IntKind.i64.wrap ((lo : Int) + (k : Int)) = (lo : Int) + k := by rw [IntKind.wrap_i64]; omega
        gi_wp2_with (first | (refine wpListIn_load_R wide_fn rowTy (wanted_none rfl _) _ rfl rfl hrk ?_) | (refine wpListIn_load_R wide_fn rowTy (wanted_none rfl _) _ rfl rfl hr6 ?_) | (refine wpListIn_store_new wide_fn rowTy (wanted_none rfl _) _ _ rfl rfl rfl rfl hy0 ?_))
        have hO' := Lib.hid (hO.out.fut RR.stays (Fut.alloc wr (.cells (Rw.cells y).toArray 32)))
        have hsz' : wr.heap.size + 1 = (wr.alloc (.cells (Rw.cells y).toArray 32)).heap.size := by simp
        refine hRd.mono ?_
        rintro e w4 (⟨rfl, hJ4, hm4⟩ | ⟨rfl, hJx4⟩)
        · have hO4 := Lib.hid (hO'.out.blkR (w' := w4) (fun j hj => hm4.2 j (by have := (HB3.out j hj).1; omega) (HB3.out j hj).2))
          have hJ4' := Lib.hid hJ4
          have hm41 := hm4.1
          clear hJ4 hm4
          gi_wp2
          go_roundw
          case rel => exact ⟨k + 1, by omega, by go_num, hJ4', hO4, by omega⟩
          case measure => simp [intOf] <;> omega
        · gi_wp2
          refine bodyPost_ret (results_none rfl _ _ _) rfl ?_
          exact ⟨⟨_, rfl⟩, .inr ⟨_, hJx4⟩⟩
      · obtain rfl : k = hi - lo := by omega
        gi_wp2
        go_end0
        exact ⟨⟨_, rfl⟩, .inl ⟨_, by rw [hN]; exact hJ.out⟩⟩
  · obtain ⟨X, hX⟩ : ∃ X, (if (xs.length : Int) < t then (xs.length : Int) else t) = X := ⟨_, rfl⟩
    rw [hX]
    have hN : hiS xs t - loS f = 0 := by omega
    have d1 : X ≤ ((loS f : Nat) : Int) := by
      unfold hiS at hab
      subst hX
      split <;> omega
    have hJ := H0.out w2 F2
    rw [← hN] at hJ
    go_wp2_with fail
    gi_wp2
    refine bodyPost_ret (results_none rfl _ _ _) rfl ?_
    exact ⟨⟨_, rfl⟩, .inl ⟨_, hJ⟩⟩
end Go.Proofs.Ytcekphjcmippoaa
