/- Relation.Select. -/
import Derived.Test.YtcekphjcmippoaaRelO
import Derived.Test.YtcekphjcmippoaaRelI
import Derived.Test.YtcekphjcmippoaaGraphIn
import Derived.Shelf.Abstract
import Derived.Laws.EntriesVeiled
namespace Go.Proofs.Ytcekphjcmippoaa
open Go.RowKit Go.WideMaps Go.Shelf
set_option linter.unusedSimpArgs false
set_option linter.unusedVariables false
attribute [local go_sem] Oper.semAt_some

/-- The numbers of the rows that agree, among the first k. -/
def selK (ar m : Nat) (x : Rw) (xs : List Rw) (k : Nat) : List Int := List.map Int.ofNat ((List.range k).filter fun i => decide (cutL ar m (xs.getD i zeroRow) = cutL ar m x))
def selL (ar m : Nat) (x : Rw) (xs : List Rw) : List Int := selK ar m x xs xs.length
theorem selK_len (ar m : Nat) (x : Rw) (xs : List Rw) (k : Nat) : (selK ar m x xs k).length ≤ k := by
  unfold selK
  rw [List.length_map]
  have := List.length_filter_le (fun i => decide (cutL ar m (xs.getD i zeroRow) = cutL ar m x)) (List.range k)
  rwa [List.length_range] at this
theorem selK_succ (ar m : Nat) (x : Rw) (xs : List Rw) (k : Nat) : selK ar m x xs (k + 1) = selK ar m x xs k ++ if cutL ar m (xs.getD k zeroRow) = cutL ar m x then [(k : Int)] else [] := by
  unfold selK
  rw [List.range_succ, List.filter_append, List.map_append]
  congr 1
  by_cases h : cutL ar m (xs.getD k zeroRow) = cutL ar m x
  · rw [if_pos h, List.filter_cons_of_pos (p := fun i => decide (cutL ar m (xs.getD i zeroRow) = cutL ar m x)) (decide_eq_true h)]; rfl
  · rw [if_neg h, List.filter_cons_of_neg (p := fun i => decide (cutL ar m (xs.getD i zeroRow) = cutL ar m x)) (by simpa using h)]; rfl
theorem RI.one : ∀ (w : World) cs x, RI w cs x → ∀ u ∈ cs, u.oneCell' = true := fun w cs x h u hu => by
  obtain rfl := h
  rw [List.mem_singleton] at hu
  subst hu; rfl
theorem infoI : (Try.prog.info? 3).map (fun i => (i.zero, i.size, i.bytes)) = some (some (.int .i64 0), 1, 8) := by kernel_rfl
theorem exec_append_I {o : Oper} {a : Act} {B : Nat} {w : World} {v u : Value} {xs ys : List Int} {M : Nat} (s x : Operand)
    (ho : o.op = .call { callee := .builtin .append, args := #[s, x], argTypes := #[46, 46] })
    (hs : a.eval s = v) (hx : a.eval x = u) (hown : OwnL 1 B 3 RI w v xs) (hu : SlRep 1 M RI w u ys) (hlen : xs.length + ys.length ≤ 17592186044416) (hbase : B ≤ w.heap.size) :
    ∃ v' w', (execOp a.eval o).run Try.prog w = .ok (.value v') w' ∧ OwnL 1 B 3 RI w' v' (xs ++ ys) ∧ w.grownBy w' v.ownBlock ∧ (v'.ownBlock = v.ownBlock ∨ v'.ownBlock = some w.heap.size) := by
  obtain ⟨i, hi, hz, hs', hb⟩ := info_parts infoI
  obtain ⟨v', w', hr, h2, h3, h4⟩ := run_append_list_at 46 o.type i _ 8 Try.underlying46 hi hz hs' hb rfl (by omega) RI.one (fun _ _ _ h _ => h) hown hu (by unfold maxLen; omega) (by omega) hbase
  refine ⟨v', w', ?_, h2, h3, h4⟩
  unfold execOp
  simp only [ho, resolve, invoke, builtin, Sem.run_bind, Sem.run_pure, Result.andThen_ok, List.map_toArray, List.map_cons, List.map_nil, hs, hx, hr]
theorem wpListIn_append_I {F : Fence} {n : Nat} {ops : Array Oper} {rest : List Oper} {Q : Exit → Act → World → Prop} {o : Oper} {a : Act} {B : Nat} {w : World} {v u : Value} {xs ys : List Int} {M : Nat} (hF : ∀ f, F.fn f) (hgd : Region.wanted o (yielded ops a.tmps) = true) (s x : Operand)
    (ho : o.op = .call { callee := .builtin .append, args := #[s, x], argTypes := #[46, 46] })
    (hs : a.eval s = v) (hx : a.eval x = u) (hown : OwnL 1 B 3 RI w v xs) (hu : SlRep 1 M RI w u ys) (hlen : xs.length + ys.length ≤ 17592186044416) (hbase : B ≤ w.heap.size)
    (h : ∀ v' w', OwnL 1 B 3 RI w' v' (xs ++ ys) → w.grownBy w' v.ownBlock → (v'.ownBlock = v.ownBlock ∨ v'.ownBlock = some w.heap.size) → wpListIn F n Try.prog ops Q rest (a.put o.dst v') w') : wpListIn F n Try.prog ops Q (o :: rest) a w := by
  obtain ⟨v', w', hr, h2, h3, h4⟩ := exec_append_I s x ho hs hx hown hu hlen hbase
  exact wpListIn_of_run hF (fun c h => by rw [ho] at h; cases h) hgd hr (h v' w' h2 h3 h4)
theorem intOne (w : World) (n : Int) : SlRep 1 1 RI (w.alloc (.cells #[.int .i64 n] 3)) (.slice (some ⟨w.heap.size, 0, none⟩) 1 1) [n] :=
  ⟨_, _, rfl, Nat.le_refl _, Nat.le_refl _, fun i y hy => by
    have hi : i = 0 := by
      have := (List.getElem?_eq_some_iff.1 hy).1
      simp at this; omega
    subst hi
    simp at hy
    subst hy
    refine ⟨_, 0, [.int .i64 n], rfl, rfl, fun j c hj => ?_, rfl⟩
    rw [Nat.zero_mul, show 0 + (0 + j) = j by omega]
    exact cell_at (heap_alloc_new w (.cells #[.int .i64 n] 3)) j c (by simpa using hj)⟩

set_option maxHeartbeats 1600000 in
set_option maxRecDepth 100000 in
theorem select_core {w : World} {p : Option Addr} {ar m : Nat} {xs : List Rw} (hm : m < 2 ^ 32)
    (hA : ∀ W, Fut w W → Calls Try.prog 11 #[.pointer p] W fun e W' => e = .returned (.int .i64 ar) ∧ W' = W)
    (hL : ∀ W, Fut w W → Calls Try.prog 13 #[.pointer p] W fun e W' => e = .returned (.int .i64 xs.length) ∧ W' = W)
    (hIt : ∀ W lb, Fut w W → SeqAt W lb (.pointer p) 0 xs.length → IterAt Try.prog 35 lb (hiS xs xs.length - loS 0) (spanArgs xs 0) W)
    (hok : ∀ x ∈ xs, Rw.ok x) (hl : xs.length ≤ 1407374883512) (x : Rw) (hx : Rw.ok x) :
    Calls Try.prog 17 #[.pointer p, .int .u32 m, Rw.val x] w fun e w' => ∃ v, e = .returned v ∧ OwnL 1 w.heap.size 3 RI w' v (selL ar m x xs) ∧ Fut w w' := by
  have HA := Lib.hid hA
  have HL := Lib.hid hL
  have HIt := Lib.hid hIt
  have HOk := Lib.hid hok
  have X := Lib.hid hx
  clear hA hL hIt hok hx
  unfold Rw.val
  refine (callsIn_wide (n := 3)).1 ?_
  refine callsIn_of_wp_marks Try.func17 rfl trivial ?_ rfl
  refine wpIn_wide.2 ?_
  simp only [Try.ntmps17, List.size_toArray, List.length_cons, List.length_nil, Nat.reduceAdd, Nat.reduceSub, Array.replicate_succ, Array.replicate_zero, List.push_toArray, List.append_toArray, List.nil_append, List.cons_append]
  have hr : ∀ o, RowAt ((((w.alloc (.cells #[.pointer p] 24)).alloc (.cells #[.int .u32 m] 43)).alloc (.cells (Rw.cells x).toArray 32)).alloc o) (w.heap.size + 1 + 1) 0 x := fun o => by
    have := (RowAt.new ((w.alloc (.cells #[.pointer p] 24)).alloc (.cells #[.int .u32 m] 43)) 32 X.out).fut (Fut.alloc _ o)
    rwa [World.size_alloc, World.size_alloc] at this
  go_wp2_with (first | (refine wpList_load_R rowTy (wanted_none rfl _) _ rfl rfl (hr _) ?_))
  have a1 := Fut.alloc w (.cells #[Value.pointer p] 24)
  have a2 := Fut.alloc (w.alloc (.cells #[Value.pointer p] 24)) (.cells #[Value.int .u32 m] 43)
  have a3 := Fut.alloc ((w.alloc (.cells #[Value.pointer p] 24)).alloc (.cells #[Value.int .u32 m] 43)) (.cells (Rw.cells x).toArray 32)
  have k1 := cell_at (heap_alloc_new w (.cells #[Value.pointer p] 24)) 0 _ rfl
  have k2 := cell_at (heap_alloc_new (w.alloc (.cells #[Value.pointer p] 24)) (.cells #[Value.int .u32 m] 43)) 0 _ rfl
  rw [World.size_alloc] at k2
  obtain ⟨W3, hW3⟩ : ∃ W, ((w.alloc (.cells #[Value.pointer p] 24)).alloc (.cells #[Value.int .u32 m] 43)).alloc (.cells (Rw.cells x).toArray 32) = W := ⟨_, rfl⟩
  have hs3 : W3.heap.size = w.heap.size + 1 + 1 + 1 := by rw [← hW3]; simp
  rw [hW3] at a3 ⊢
  replace k1 := a3.cell (a2.cell k1)
  replace k2 := a3.cell k2
  replace a3 := (a1.trans a2).trans a3
  clear hW3 hr a1 a2
  have a4 := fun o => Fut.alloc W3 o
  have k3 := cell_at (heap_alloc_new W3 (.cells #[Value.func (.func 34) #[] #[Value.pointer (some ⟨w.heap.size, 0, none⟩), Value.pointer (some ⟨w.heap.size + 1, 0, none⟩)]] 78)) 0 _ rfl
  refine (only_any hm ((a4 _).cell k1) ((a4 _).cell k2) (fun W hW => HA.out W (a3.trans ((a4 _).trans hW))) x X.out).mono ?_
  rintro e w1 ⟨rfl, f1⟩
  replace k1 := f1.cell ((a4 _).cell k1)
  replace k2 := f1.cell ((a4 _).cell k2)
  replace k3 := f1.cell k3
  replace f1 := a3.trans ((a4 _).trans f1)
  have h13 : W3.heap.size < w1.heap.size := lt_of_cell k3
  rw [hs3] at k3
  clear a4 a3
  go_wp2_with (first | (refine wpList_store_new rowTy (wanted_none rfl _) _ _ rfl rfl rfl rfl (cutK_ok X.out) ?_))
  have b1 := Fut.alloc w1 (.cells (Rw.cells (cutL ar m x)).toArray 32)
  have b2 := Fut.alloc (w1.alloc (.cells (Rw.cells (cutL ar m x)).toArray 32)) (.cells #[Value.slice none 0 0] 46)
  have hrw := (RowAt.new w1 32 (cutK_ok (ar := ar) (m := m) (k := 24) X.out)).fut b2
  have hO := heap_alloc_new (w1.alloc (.cells (Rw.cells (cutL ar m x)).toArray 32)) (.cells #[Value.slice none 0 0] 46)
  rw [World.size_alloc] at hO
  obtain ⟨w2, hw2⟩ : ∃ W, (w1.alloc (.cells (Rw.cells (cutL ar m x)).toArray 32)).alloc (.cells #[Value.slice none 0 0] 46) = W := ⟨_, rfl⟩
  have hs2 : w2.heap.size = w1.heap.size + 1 + 1 := by rw [← hw2]; simp
  rw [show cutK ar m 24 x = cutL ar m x from rfl] at hrw
  rw [hw2] at hrw hO b2 ⊢
  clear hw2
  replace b2 := b1.trans b2
  replace k1 := b2.cell k1
  replace k2 := b2.cell k2
  replace k3 := b2.cell k3
  replace f1 := f1.trans b2
  clear b1 b2
  refine wp_graph 4 [.d, .d, .d, .r (fun v w => ∃ lb, v = .func (.func 35) #[] lb ∧ SeqAt w lb (.pointer p) 0 xs.length)] (by kernel_rfl) (by kernel_rfl) (by kernel_rfl) ?_
  simp only [List.take_succ_cons, List.take_zero, List.drop_succ_cons, List.drop_zero, Exs]
  iterate 3 apply Exists.intro
  apply Run.valG (wanted_none rfl _)
  · intro w1 h1 hk
    have q1 := h1.cell k1; have hg := f1.trans ((Fut.drew _).trans h1)
    have hcw := fun b o => Below.cell (p := ⟨b, o, none⟩) h1
    go_simp; rfl
  simp only [Act.put, List.setIfInBounds_toArray, List.set_cons_succ, List.set_cons_zero, List.nil_append, List.cons_append]
  apply Run.valG (wanted_none rfl _)
  · intro w1 h1 hk
    have q1 := h1.cell k1; have hg := f1.trans ((Fut.drew _).trans h1)
    have hcw := fun b o => Below.cell (p := ⟨b, o, none⟩) h1
    go_simp; rfl
  simp only [Act.put, List.setIfInBounds_toArray, List.set_cons_succ, List.set_cons_zero, List.nil_append, List.cons_append]
  apply Run.call (wanted_none rfl _) (fun _ _ => by go_simp; exact ⟨rfl, rfl⟩)
  · intro w1 h1 hk
    have q1 := h1.cell k1; have hg := f1.trans ((Fut.drew _).trans h1)
    refine (HL.out _ hg).mono ?_; rintro e w' ⟨rfl, rfl⟩; exact ⟨rfl, Fut.refl _⟩
  simp only [Act.put, List.setIfInBounds_toArray, List.set_cons_succ, List.set_cons_zero, List.nil_append, List.cons_append]
  apply Run.callR (wanted_none rfl _) (by intro v w w' hf hs; exact (by obtain ⟨lb, rfl, h⟩ := hs; exact ⟨lb, rfl, h.fut hf⟩)) (fun _ _ => by go_simp; exact ⟨rfl, rfl⟩)
  · intro w1 h1 hk
    have q1 := h1.cell k1; have hg := f1.trans ((Fut.drew _).trans h1)
    refine (range_any _ _ _ _).mono ?_; rintro e w' ⟨lb, rfl, hq, hf⟩; exact ⟨_, rfl, hf, lb, rfl, hq⟩
  intro v3
  simp only [Act.put, List.setIfInBounds_toArray, List.set_cons_succ, List.set_cons_zero, List.nil_append, List.cons_append]
  apply Run.done
  intro wl hl' hk
  obtain ⟨f3, _⟩ := hk
  obtain ⟨lb, rfl, hsq⟩ := f3
  have hg := (Fut.drew w2).trans hl'
  have hsl := hg.size
  have HS := Lib.hid hsq
  replace k1 := hg.cell k1
  replace k2 := hg.cell k2
  replace k3 := hg.cell k3
  replace hrw := hrw.fut hg
  replace hO := hg.block hO
  have FL := Lib.hid (f1.trans hg)
  have hcw : w.heap.size + 1 + 1 + 1 < w1.heap.size := by omega
  clear hsq f1 hg hl'
  have hN : hiS xs (xs.length : Int) - loS 0 = xs.length := by simp [hiS, loS]
  have hOl : w1.heap.size + 1 < wl.heap.size := (Array.getElem?_eq_some_iff.1 hO).1
  have HI0 := Lib.hid (show ∀ k (hk : k < xs.length), spanArgs xs 0 k = #[.int .i64 (k : Int), Rw.val xs[k]] from fun k hk => by
    simp [spanArgs, loS, List.getD, hk])
  go_wp2_with fail
  refine wp_range (N := hiS xs (xs.length : Int) - loS 0) (args := spanArgs xs 0) rfl (enters_of Try.func35 (by kernel_rfl) rfl) (fun W hf => HIt.out W lb (FL.out.trans hf) (HS.out.fut hf)) (fun k hk => rfl)
    (fun s k W => ∃ ov, OwnL 1 w.heap.size 3 RI W ov (selK ar m x xs k) ∧ (∀ j, ov.ownBlock = some j → s ≤ j) ∧ W.heap[w1.heap.size + 1]? = some (.cells #[ov] 46 (0, 0)) ∧ Only (fun j => j = w1.heap.size + 1) wl W)
    (fun _ _ _ => False) ?hIf ?hI ?hIx ?h0 ?hbody ?hdone ?hstop
  case hIf => rintro s k W W' hf ⟨ov, h1, h2, h3, h4⟩; exact ⟨ov, h1.fut RI.stays hf, h2, hf.block h3, h4.trans (Only.fut hf)⟩
  case hI =>
    rintro s k W l o hl1 hl2 hs ⟨ov, h1, h2, h3, h4⟩
    have OP : Only (fun j => j = l) W (W.putObj l o) := Only.put _ _ rfl
    exact ⟨ov, h1.only (fun _ _ h => h) OP (fun j hj e => by have := h2 j hj; omega), h2, OP.keeps h3 (by show ¬ w1.heap.size + 1 = l; omega), h4.then OP fun j hj hlt => by omega⟩
  case hIx => exact fun _ _ _ _ _ _ _ _ h => h
  case h0 =>
    intro w4 hf hs
    exact ⟨_, OwnL.nil, fun j hj => (by cases hj), hf.block hO, Only.fut hf⟩
  case hbody =>
    rintro l s k W hl1 hl2 hs hsW hk ⟨ov, h1, h2, h3, h4⟩ hrec
    have hkx : k < xs.length := by omega
    rw [HI0.out k hkx]
    have hyo := HOk.out _ (List.getElem_mem hkx)
    have htk := selK_succ ar m x xs k
    rw [show xs.getD k zeroRow = xs[k] by simp [List.getD, hkx]] at htk
    have hsl0 := selK_len ar m x xs k
    generalize xs[k] = y at hyo htk
    obtain ⟨rr, hrr⟩ := hrec
    gi_wp2_with (first | (refine wpListIn_store_new (round_fn l) rowTy (wanted_none rfl _) _ _ rfl rfl rfl rfl hyo ?_))
    refine ⟨Mid.of_fut (Fut.alloc _ _) hsW, fun o => ?_⟩
    have OP : Only (fun j => j = l) W ((W.alloc (.cells (Rw.cells y).toArray 32)).putObj l o) := (Only.fut (Fut.alloc _ _)).trans (Only.put _ _ rfl)
    have hr5 : RowAt ((W.alloc (.cells (Rw.cells y).toArray 32)).putObj l o) W.heap.size 0 y := (RowAt.new W 32 hyo).only (Only.put (S := fun j => j = l) l o rfl) (by omega)
    have hsP : W.heap.size < ((W.alloc (.cells (Rw.cells y).toArray 32)).putObj l o).heap.size := by rw [World.putObj_size]; simp
    obtain ⟨Wp, hWp⟩ : ∃ x, (W.alloc (.cells (Rw.cells y).toArray 32)).putObj l o = x := ⟨_, rfl⟩
    rw [hWp] at OP hr5 hsP ⊢
    clear hWp
    replace h1 : OwnL 1 w.heap.size 3 RI Wp ov (selK ar m x xs k) := h1.only (fun _ _ h => h) OP (fun j hj e => by have := h2 j hj; omega)
    replace h3 := OP.keeps h3 (by show ¬ w1.heap.size + 1 = l; omega)
    replace h4 := h4.then OP fun j hj hlt => by omega
    have q1 := h4.cell k1 (by show ¬ w.heap.size = w1.heap.size + 1; omega)
    have q2 := h4.cell k2 (by show ¬ w.heap.size + 1 = w1.heap.size + 1; omega)
    have q3 := h4.cell k3 (by show ¬ w.heap.size + 1 + 1 + 1 = w1.heap.size + 1; omega)
    have q4 := hrw.only h4 (by omega)
    have hFw : Fut w Wp := ((Only.fut FL.out).trans (h4.mono (S' := fun j => w.heap.size ≤ j) fun j _ hj => by omega)).toFut fun j hj => hj
    have HOnly := Lib.hid (fun W (hW : Fut Wp W) => only_any (w := W) hm (hW.cell q1) (hW.cell q2) (fun W' hW' => HA.out W' (hFw.trans (hW.trans hW'))) y hyo)
    clear hrr
    gi_wp2_with fail
    refine wpIn_graph 5 [.d, .d, .d, .d, .d] (by kernel_rfl) (by kernel_rfl) (by kernel_rfl) (by kernel_rfl) ?_
    simp only [List.take_succ_cons, List.take_zero, List.drop_succ_cons, List.drop_zero, Exs]
    iterate 5 apply Exists.intro
    apply Run.valG (wanted_none rfl _)
    · intro w1 h1 hk
      have q := h1.cell q3; have hg := (Fut.drew _).trans h1
      have hcw := fun b o => Below.cell (p := ⟨b, o, none⟩) h1
      go_simp; rfl
    simp only [Act.put, List.setIfInBounds_toArray, List.set_cons_succ, List.set_cons_zero, List.nil_append, List.cons_append]
    apply Run.valG (wanted_none rfl _)
    · intro w1 h1 hk
      have q := h1.cell q3; have hg := (Fut.drew _).trans h1
      have hcw := fun b o => Below.cell (p := ⟨b, o, none⟩) h1
      exact exec_load_R rowTy _ rfl rfl (hr5.fut hg)
    simp only [Act.put, List.setIfInBounds_toArray, List.set_cons_succ, List.set_cons_zero, List.nil_append, List.cons_append]
    apply Run.call (wanted_none rfl _) (fun _ _ => by go_simp; exact ⟨rfl, rfl⟩)
    · intro w1 h1 hk
      have q := h1.cell q3; have hg := (Fut.drew _).trans h1
      refine (HOnly.out _ hg).mono ?_; rintro e w' ⟨rfl, hf⟩; exact ⟨rfl, hf⟩
    simp only [Act.put, List.setIfInBounds_toArray, List.set_cons_succ, List.set_cons_zero, List.nil_append, List.cons_append]
    apply Run.valG (wanted_none rfl _)
    · intro w1 h1 hk
      have q := h1.cell q3; have hg := (Fut.drew _).trans h1
      have hcw := fun b o => Below.cell (p := ⟨b, o, none⟩) h1
      exact exec_load_R rowTy _ rfl rfl (q4.fut hg)
    simp only [Act.put, List.setIfInBounds_toArray, List.set_cons_succ, List.set_cons_zero, List.nil_append, List.cons_append]
    apply Run.valG (wanted_none rfl _)
    · intro w1 h1 hk
      have q := h1.cell q3; have hg := (Fut.drew _).trans h1
      have hcw := fun b o => Below.cell (p := ⟨b, o, none⟩) h1
      exact exec_eql_R rowTy noGuard _ _ _ rfl rfl rfl (cutK_ok hyo) (cutK_ok X.out)
    simp only [Act.put, List.setIfInBounds_toArray, List.set_cons_succ, List.set_cons_zero, List.nil_append, List.cons_append]
    apply Run.done
    intro w6 h6 hk
    clear hk
    have F6 := (Fut.drew _).trans h6
    have p1 : OwnL 1 w.heap.size 3 RI w6 ov (selK ar m x xs k) := h1.fut RI.stays F6
    have p3 := F6.block h3
    have p4 : Only (fun j => j = w1.heap.size + 1) wl w6 := h4.trans (Only.fut F6)
    have hM6 : Mid wl.heap.size s Wp w6 := Mid.of_fut F6 (by omega)
    clear HOnly h1 h3 h4 h6 q1 q2 q3 q4 hr5
    by_cases he : cutL ar m y = cutL ar m x
    · rw [if_pos he] at htk
      rw [decide_eq_true he]
      have hs6 := F6.size
      have hOa := p1.fut RI.stays (Fut.alloc w6 (.cells #[.int .i64 (k : Int)] 3))
      have hRo := intOne w6 (k : Int)
      have hLa : (selK ar m x xs k).length + [(k : Int)].length ≤ 17592186044416 := by simp; omega
      have hBa : w.heap.size ≤ (w6.alloc (.cells #[.int .i64 (k : Int)] 3)).heap.size := by have := hFw.size; simp; omega
      have c9 := cell_at p3 0 _ rfl
      have p3a := (Fut.alloc w6 (.cells #[.int .i64 (k : Int)] 3)).block p3
      have hne : ∀ j, ov.ownBlock = some j → j ≠ w1.heap.size + 1 := fun j hj e => by have := h2 j hj; have := hOl; omega
      gi_wp2_with (first | (refine wpListIn_append_I (round_fn l) (wanted_none rfl _) _ _ rfl rfl rfl hOa hRo hLa hBa ?_; intro v8 w8 hO8 hG8 hB8; obtain ⟨A8, cap8, hv8, hc8, _⟩ := hO8.rep.form; have O8 : Only (fun j => ov.ownBlock = some j) _ w8 := Only.grown hG8 (fun j hj => hj); have b8 := O8.keeps p3a (fun h => hne _ h rfl); have q8 := cell_at b8 0 _ rfl; have z8 := free_at b8 0; subst hv8))
      have hel : (selK ar m x xs k ++ [(k : Int)]).length = (selK ar m x xs k).length + 1 := by simp
      rw [hel] at hB8
      rw [hel, ← htk] at hO8
      have hs8 := O8.size
      have hB9 : ∀ j, (Value.slice A8 ((selK ar m x xs k).length + 1) cap8).ownBlock = some j → ov.ownBlock = some j ∨ w6.heap.size < j := fun j hj => by
        rcases hB8 with h | h
        · exact .inl ((show ov.ownBlock = _ from h.symm).trans hj)
        · have e := (show some _ = _ from h.symm).trans hj
          rw [World.size_alloc] at e
          have := Option.some.inj e
          omega
      have hne9 : ∀ j, (Value.slice A8 ((selK ar m x xs k).length + 1) cap8).ownBlock = some j → ¬ j = w1.heap.size + 1 := fun j hj e => by
        rcases hB9 j hj with h | h
        · exact hne j h e
        · omega
      have OS : Only (fun j => j = w1.heap.size + 1) w8 (w8.setCell ⟨w1.heap.size + 1, 0, none⟩ (Value.slice A8 ((selK ar m x xs k).length + 1) cap8)) := Only.set _ _ rfl
      have OA := (Only.fut (Fut.alloc w6 (.cells #[.int .i64 (k : Int)] 3))).trans O8
      have OT : Only (fun j => s ≤ j ∨ j = w1.heap.size + 1) w6 (w8.setCell ⟨w1.heap.size + 1, 0, none⟩ (Value.slice A8 ((selK ar m x xs k).length + 1) cap8)) := (OA.mono (S' := fun j => s ≤ j ∨ j = w1.heap.size + 1) fun j _ hj => .inl (h2 j hj)).trans (OS.mono (S' := fun j => s ≤ j ∨ j = w1.heap.size + 1) fun j _ hj => .inr hj)
      have hst := OT.size
      refine ⟨⟨Nat.le_trans hM6.1 hst, fun j hj1 hj2 => ?_⟩, _, hO8.only (fun _ _ h => h) OS hne9, fun j hj => ?_, ?_, p4.then OT fun j hj hlt => ?_⟩
      · exact (OT.block j (by omega) (by omega)).trans (hM6.2 j hj1 hj2)
      · rcases hB9 j hj with h | h
        · exact h2 j h
        · omega
      · exact set_blk b8
      · rcases hj with h | h
        · omega
        · exact h
    · rw [if_neg he, List.append_nil] at htk
      rw [decide_eq_false he]
      gi_wp2
      exact ⟨hM6, ov, by rw [htk]; exact p1, h2, p3, p4⟩
  case hdone =>
    rintro s W hs ⟨ov, h1, h2, h3, h4⟩ hK
    have c9 := cell_at h3 0 _ rfl
    have hst : selK ar m x xs (hiS xs (xs.length : Int) - loS 0) = selL ar m x xs := by rw [hN]; rfl
    rw [hst] at h1
    go_wp2
    refine ⟨by simp, .inl ⟨_, _, rfl, run_takeDeferred hK, ?_⟩⟩
    have OP : Only (fun j => j = wl.heap.size) W (W.putObj wl.heap.size (.deferred none)) := Only.put _ _ rfl
    exact ⟨_, results_tmp rfl _ _ _, ov, rfl, h1.only (fun _ _ h => h) OP (fun j hj e => by have := h2 j hj; omega), (((Only.fut FL.out).trans (h4.mono (S' := fun j => w.heap.size ≤ j) fun j _ hj => by omega)).trans (OP.mono (S' := fun j => w.heap.size ≤ j) fun j _ hj => by omega)).toFut fun j hj => hj⟩
  case hstop => exact fun _ _ _ _ h _ => h.elim
end Go.Proofs.Ytcekphjcmippoaa
